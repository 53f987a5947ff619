/- General texts, put together in one file. No condition. -/
import Derived.WalkKit
import Derived.WalkSpells
import Derived.WalkLawsBesides
import Derived.ProofKit
import Derived.OpenShut
import Derived.ShutString
import Derived.ChangeOld
import Derived.BigQuiet
import Derived.Deep.QuietTactic
import Derived.Deep.Slices
import Derived.Lib.Hide
import Derived.Handy
import Derived.Lib.QuietBelow
import Derived.StillTail
import Derived.Deep.AppendLies
import Derived.Deep.DeepCutAuto
import Derived.Lib.TrailingZeros
import Derived.LaidLaws
import Derived.LaidHandle


/- Tools of the walks of this seat, over any program: frames of memory, blocks known whole, data that came in read as cells. No condition. -/
namespace Go.Tk
open Go.RowKit Go.ChangeShapes Go.WideShapes Go.Deep

/-! ### Data that came in -/
inductive Leaf where
  | int (k : IntKind)
  | bool
  | str
  | slice (bytes : Nat) (ks : List Leaf)

mutual
def CellOk (w : World) : Leaf → Value → Prop
  | .int k, v => ∃ n, v = .int k n ∧ (Lit.int k n).wf = true
  | .bool, v => ∃ b, v = .bool b
  | .str, v => ∃ s, v = .string s ∧ s.size ≤ maxLen
  | .slice bytes ks, v => ∃ a len cap, v = .slice a len cap ∧ len ≤ cap ∧ cap ≤ maxLen ∧ cap * bytes ≤ reachBytes ∧ (a = none → len = 0 ∧ cap = 0) ∧
      ∀ ad, a = some ad → ∀ i, i < len → RowOk w ks (fun j => w.cell? (ad.add (i * ks.length + j)))
def RowOk (w : World) : List Leaf → (Nat → Option Value) → Prop
  | [], _ => True
  | k :: ks, f => (∃ v, f 0 = some v ∧ CellOk w k v) ∧ RowOk w ks (fun j => f (j + 1))
end

def leavesFs (L : TypeId → Option (List Leaf)) (C : TypeId → Nat) : List Field → Nat → Option (List Leaf)
  | [], _ => some []
  | f :: fs, off =>
    if f.offset = off then
      match L f.type with
      | none => none
      | some ks => if ks.length = C f.type then (match leavesFs L C fs (off + ks.length) with | none => none | some r => some (ks ++ r)) else none
    else none

def leaves (P : Program) : Nat → TypeId → Option (List Leaf)
  | 0, _ => none
  | n + 1, t =>
    match P.underlying t with
    | some .bool => some [.bool]
    | some (.int k) => some [.int k]
    | some .string => some [.str]
    | some (.slice e) => match leaves P n e with
      | none => none
      | some ks => if ks.length = P.cellsOf e ∧ 0 < ks.length then some [.slice (P.bytesOf e) ks] else none
    | some (.struct fs) => match leavesFs (leaves P n) P.cellsOf fs.toList 0 with
      | none => none
      | some ks => if ks.length = P.cellsOf t then some ks else none
    | _ => none

theorem RowOk.congr {w : World} : ∀ {ks : List Leaf} {f g : Nat → Option Value}, (∀ j, j < ks.length → f j = g j) → RowOk w ks f → RowOk w ks g
  | [], _, _, _, _ => by simp [RowOk]
  | k :: ks, f, g, h, hf => by
    simp only [RowOk] at hf ⊢
    refine ⟨?_, RowOk.congr (fun j hj => h (j + 1) (by simp <;> omega)) hf.2⟩
    rw [← h 0 (by simp)]
    exact hf.1

theorem RowOk.append {w : World} : ∀ {ks ls : List Leaf} {f : Nat → Option Value}, RowOk w ks f → RowOk w ls (fun j => f (j + ks.length)) → RowOk w (ks ++ ls) f
  | [], ls, f, _, h => by simpa using h
  | k :: ks, ls, f, hk, h => by
    simp only [RowOk, List.cons_append] at hk ⊢
    exact ⟨hk.1, RowOk.append hk.2 (RowOk.congr (fun j _ => by simp only [List.length_cons]; congr 1) h)⟩

section
variable {H : Type} {enc : TypeId × Value → H} {P : Program} {w : World} {base : Nat} {spare : Nat → Bool} {held : Bool}

theorem weights_fields : ∀ {fs : List Field} {xs : List (DataW H × List MemPlace)} {i : Nat} {f : Field} {x : DataW H × List MemPlace}, fs[i]? = some f → xs[i]? = some x →
    (DataW.weightsEach P (fs.map (·.type)) (xs.map (·.1))).all (· ≤ reachBytes) = true → (x.1.weights P f.type).all (· ≤ reachBytes) = true := by
  intro fs xs i f x hf hx h
  rw [List.all_eq_true] at h ⊢
  intro n hn
  exact h n (DataW.weights_mem_each (j := i) (by simp [hf]) (by simp [hx]) n hn)

theorem weights_elems : ∀ {e : TypeId} {ds : List (DataW H)} {d : DataW H}, d ∈ ds → (DataW.weightsAll P e ds).all (· ≤ reachBytes) = true → (d.weights P e).all (· ≤ reachBytes) = true
  | e, d0 :: ds, d, hd, h => by
    simp only [DataW.weightsAll, List.all_append, Bool.and_eq_true] at h
    rcases List.mem_cons.1 hd with rfl | hd
    · exact h.1
    · exact weights_elems hd h.2

theorem leavesFs_ok (L : TypeId → Option (List Leaf)) (n : Nat)
    (hL : ∀ t ks cs x, L t = some ks → DataW.trod enc P w base spare held n t cs = some x → (x.1.weights P t).all (· ≤ reachBytes) = true → cs.length = ks.length ∧ RowOk w ks (fun j => cs[j]?)) :
    ∀ (fs : List Field) (off : Nat) (ks : List Leaf) (cs : List Value), leavesFs L P.cellsOf fs off = some ks →
      (∀ (i : Nat) (f : Field), fs[i]? = some f → ∃ x, DataW.trod enc P w base spare held n f.type ((cs.drop f.offset).take (P.cellsOf f.type)) = some x ∧ (x.1.weights P f.type).all (· ≤ reachBytes) = true) →
      RowOk w ks (fun j => cs[off + j]?) ∧ (ks = [] ∨ off + ks.length ≤ cs.length)
  | [], off, ks, cs, h, _ => by
    simp only [leavesFs, Option.some.injEq] at h
    subst h
    simp [RowOk]
  | f :: fs, off, ks, cs, h, hf => by
    unfold leavesFs at h
    split at h
    case isFalse => cases h
    rename_i hoff
    split at h
    · cases h
    rename_i ks0 h0
    split at h
    case isFalse => cases h
    rename_i hlen
    split at h
    · cases h
    rename_i r hr
    simp only [Option.some.injEq] at h
    subst h
    obtain ⟨x, hx, hxw⟩ := hf 0 f rfl
    obtain ⟨hl, hrow⟩ := hL _ _ _ _ h0 hx hxw
    rw [hoff, ← hlen] at hl hrow
    have hlen2 : ks0 = [] ∨ off + ks0.length ≤ cs.length := by
      simp only [List.length_take, List.length_drop] at hl
      rcases Nat.eq_zero_or_pos ks0.length with h | h
      · exact .inl (List.eq_nil_of_length_eq_zero h)
      · right; omega
    obtain ⟨hrest, hrl⟩ := leavesFs_ok L n hL fs (off + ks0.length) r cs hr (fun i g hg => hf (i + 1) g (by simpa using hg))
    refine ⟨RowOk.append (RowOk.congr (fun j hj => ?_) hrow) (RowOk.congr (fun j _ => ?_) hrest), ?_⟩
    · rw [List.getElem?_take_of_lt hj, List.getElem?_drop]
    · congr 1; omega
    · rcases hrl with rfl | h
      · rcases hlen2 with rfl | h
        · left; rfl
        · right; simpa using h
      · right; simp <;> omega

theorem trod_ok (hsp : ∀ b, spare b = true) : ∀ (n : Nat) (t : TypeId) (ks : List Leaf), leaves P n t = some ks → ∀ (fuel : Nat) (cs : List Value) (x : DataW H × List MemPlace),
    DataW.trod enc P w base spare held fuel t cs = some x → (x.1.weights P t).all (· ≤ reachBytes) = true → cs.length = ks.length ∧ RowOk w ks (fun j => cs[j]?)
  | 0, _, _, h, _, _, _, _, _ => by simp [leaves] at h
  | n + 1, t, ks, h, fuel, cs, x, ht, hw => by
    unfold leaves at h
    split at h
    · rename_i hu
      simp only [Option.some.injEq] at h
      subst h
      cases fuel with
      | zero => simp [DataW.trod] at ht
      | succ fuel =>
        unfold DataW.trod at ht
        rw [hu] at ht
        split at ht <;> simp_all [RowOk, CellOk]
    · rename_i k hu
      simp only [Option.some.injEq] at h
      subst h
      cases fuel with
      | zero => simp [DataW.trod] at ht
      | succ fuel =>
        unfold DataW.trod at ht
        rw [hu] at ht
        split at ht <;> simp_all [RowOk, CellOk]
    · rename_i hu
      simp only [Option.some.injEq] at h
      subst h
      cases fuel with
      | zero => simp [DataW.trod] at ht
      | succ fuel =>
        unfold DataW.trod at ht
        rw [hu] at ht
        split at ht <;> simp_all [RowOk, CellOk]
    · rename_i e hu
      split at h
      · cases h
      rename_i ks0 h0
      split at h
      case isFalse => cases h
      rename_i hlen
      simp only [Option.some.injEq] at h
      subst h
      rcases open_slice hu ht with ⟨rfl, rfl⟩ | ⟨a, len, cap, m, k, D, Pl, rfl, hb, hl, hm, hmm, rfl, hel⟩
      · refine ⟨rfl, ?_⟩
        simp only [RowOk, CellOk, List.getElem?_cons_zero, Option.some.injEq, exists_eq_left', and_true]
        exact ⟨none, 0, 0, rfl, Nat.le_refl _, Nat.zero_le _, by simp, fun _ => ⟨rfl, rfl⟩, fun ad h => by cases h⟩
      · refine ⟨rfl, ?_⟩
        simp only [RowOk, CellOk, List.getElem?_cons_zero, Option.some.injEq, exists_eq_left', and_true]
        rw [hsp, if_pos rfl] at hmm
        subst hmm
        simp only [DataW.weights, hu, List.all_cons, List.all_append, Bool.and_eq_true, List.length_map, List.length_range, decide_eq_true_eq] at hw
        refine ⟨_, _, _, rfl, hl, hm, ?_, (by intro h; cases h), ?_⟩
        · have := hw.1
          rw [show len + (m - len) = m from by omega] at this
          exact this
        · intro ad had i hi
          injection had with had
          subst had
          obtain ⟨cs', hc, htr⟩ := hel i (by omega)
          obtain ⟨_, hcl, hat⟩ := World.cells?_some hc
          have hd : (D i).weights P e |>.all (· ≤ reachBytes) := weights_elems (List.mem_map.2 ⟨i, by simpa using hi, rfl⟩) hw.2.1
          obtain ⟨hl', hrow⟩ := trod_ok hsp n e ks0 h0 k cs' _ htr hd
          refine RowOk.congr (fun j hj => ?_) hrow
          rw [← hat j (by omega), Go.Deep.add_add, hlen.1]
    · rename_i fs hu
      split at h
      · cases h
      rename_i ks0 h0
      split at h
      case isFalse => cases h
      rename_i hlen
      simp only [Option.some.injEq] at h
      subst h
      obtain ⟨xs, k, rfl, rfl, hcl, hxl, hf⟩ := DataW.trod_struct hu ht
      simp only [DataW.weights, hu] at hw
      obtain ⟨h1, h2⟩ := leavesFs_ok (leaves P n) k (fun t ks cs x h ht hw => trod_ok hsp n t ks h k cs x ht hw) fs.toList 0 ks0 cs h0 (fun i f hi => by
        have hi' : fs[i]? = some f := by simpa using hi
        have hlt : i < fs.size := (Array.getElem?_eq_some_iff.1 hi').1
        have hx : xs[i]? = some (xs[i]'(by omega)) := List.getElem?_eq_getElem (by omega)
        exact ⟨_, (hf i f hi').trans hx, weights_fields hi hx hw⟩)
      exact ⟨by rw [hcl, hlen], RowOk.congr (fun j _ => by rw [Nat.zero_add]) h1⟩
    · cases h
end

/-! ### All arguments, and the step from a walk to the row -/
def isAgg (P : Program) (t : TypeId) : Bool := match P.underlying t with | some (.struct _) => true | _ => false

def ArgOk (w : World) (agg : Bool) (ks : List Leaf) (v : Value) : Prop :=
  match agg with
  | true => ∃ cs : Array Value, v = .agg cs ∧ cs.size = ks.length ∧ RowOk w ks (fun j => cs[j]?)
  | false => match ks with | [k] => CellOk w k v | _ => False

def ArgsOk (w : World) : List (Bool × List Leaf) → List Value → Prop
  | [], vs => vs = []
  | (b, ks) :: r, vs => ∃ v vs', vs = v :: vs' ∧ ArgOk w b ks v ∧ ArgsOk w r vs'

def shapes (P : Program) (n : Nat) : List TypeId → Option (List (Bool × List Leaf))
  | [] => some []
  | t :: ts => match leaves P n t, shapes P n ts with
    | some ks, some r => some ((isAgg P t, ks) :: r)
    | _, _ => none

section
variable {H : Type} {enc : TypeId × Value → H} {P : Program} {w : World} {base : Nat} {spare : Nat → Bool} {held : Bool}

theorem arg_ok (hsp : ∀ b, spare b = true) {n : Nat} {t : TypeId} {ks : List Leaf} {v : Value} {d : DataW H} {ps : List MemPlace} {b0 : Nat} (hl : leaves P n t = some ks) (hv : Value.okWide P w .any b0 t v)
    (h : DataW.Trod enc P w base spare held t v d ps) (hw : (d.weights P t).all (· ≤ reachBytes) = true) : ArgOk w (isAgg P t) ks v := by
  obtain ⟨fuel, hf⟩ := h
  obtain ⟨h1, h2⟩ := trod_ok hsp n t ks hl fuel _ _ hf hw
  cases n with
  | zero => simp [leaves] at hl
  | succ n =>
    unfold leaves at hl
    unfold isAgg
    split at hl
    · rename_i hu
      obtain ⟨b, rfl⟩ := okWide_bool hu hv
      simp_all [ArgOk, Value.cells]
      subst hl
      simpa [RowOk] using h2
    · rename_i k hu
      obtain ⟨b, rfl⟩ := okWide_int hu hv
      simp_all [ArgOk, Value.cells]
      subst hl
      simpa [RowOk] using h2
    · rename_i hu
      obtain ⟨b, rfl⟩ := okWide_string hu hv
      simp_all [ArgOk, Value.cells]
      subst hl
      simpa [RowOk] using h2
    · rename_i e hu
      obtain ⟨a, l, c, rfl⟩ := okWide_slice hu hv
      split at hl
      · cases hl
      split at hl
      case isFalse => cases hl
      simp only [Option.some.injEq] at hl
      subst hl
      simp only [hu, ArgOk]
      simpa [RowOk, Value.cells] using h2
    · rename_i fs hu
      obtain ⟨cs, rfl, hsz⟩ := okWide_struct hu hv
      simp only [hu, ArgOk]
      exact ⟨cs, rfl, by simpa [Value.cells] using h1, by simpa [Value.cells] using h2⟩
    · cases hl

theorem args_ok (hsp : ∀ b, spare b = true) (n : Nat) : ∀ (ts : List TypeId) (vs : List Value) (ds : List (DataW H)) (ps : List MemPlace) (sh : List (Bool × List Leaf)) (b0 : Nat), shapes P n ts = some sh →
    DataW.TrodAll enc P w base spare held ts vs ds ps → (DataW.weightsEach P ts ds).all (· ≤ reachBytes) = true →
    (∀ (j : Nat) t v, ts[j]? = some t → vs[j]? = some v → Value.okWide P w .any b0 t v) → ArgsOk w sh vs
  | [], vs, ds, ps, sh, b0, h, ht, _, _ => by
    simp only [shapes, Option.some.injEq] at h
    subst h
    cases vs <;> cases ds <;> simp_all [DataW.TrodAll, ArgsOk]
  | t :: ts, vs, ds, ps, sh, b0, h, ht, hw, hv => by
    obtain ⟨v, vs', d, ds', p, q, rfl, rfl, rfl, h0, hr⟩ := trodAll_cons ht
    unfold shapes at h
    split at h
    case h_2 => cases h
    rename_i ks r hk hsr
    simp only [Option.some.injEq] at h
    subst h
    simp only [DataW.weightsEach, List.all_append, Bool.and_eq_true] at hw
    exact ⟨v, vs', rfl, arg_ok hsp hk (hv 0 t v rfl rfl) h0 hw.1, args_ok hsp n ts vs' ds' q r b0 hsr hr hw.2 (fun j t v ht hv' => hv (j + 1) t v (by simpa using ht) (by simpa using hv'))⟩

theorem trodAll_below (hl : laidOutB P = true) {W W' : World} (bel : Below W.heap.size W W') : ∀ (ts : List TypeId) (vs : List Value) (ds : List (DataW H)) (ps : List MemPlace),
    ts.all (fun t => P.readableRec t && decide (t < P.types.size)) = true → DataW.TrodAll enc P W 0 (fun _ => true) true ts vs ds ps →
    DataW.TrodAll enc P W' 0 (fun b => decide (b < W.heap.size)) true ts vs ds ps
  | [], vs, ds, ps, _, h => by cases vs <;> cases ds <;> simp_all [DataW.TrodAll]
  | t :: ts, vs, ds, ps, hr, h => by
    obtain ⟨v, vs', d, ds', p, q, rfl, rfl, rfl, h0, hrest⟩ := trodAll_cons h
    simp only [List.all_cons, Bool.and_eq_true, decide_eq_true_eq] at hr
    have lt0 : ∀ x ∈ p, x.block < W.heap.size := by obtain ⟨m, hm⟩ := h0; exact DataW.trod_lt m _ _ _ hm
    exact trodAll_cons_mk (Below.trod hl hr.1.1 hr.1.2 h0 bel lt0) (trodAll_below hl bel ts vs' ds' q hr.2 hrest)
end

theorem lifted {C : Checked} {os : Os} (started : os.Started) {H : Type} (enc : TypeId × Value → H) {f : FuncId} {fn : Func} {s : ChangeSpec} {sh : List (Bool × List Leaf)} {tb : TypeId} {n : Nat}
    (own : ownKnob C.prog.godebug = none) (hlo : laidOutB C.prog = true) (noInit : C.prog.inits.idxOf? f = none) (hfn : C.prog.funcs[f]? = some fn)
    (hr : fn.params.toList.all (fun t => C.prog.readableRec t && decide (t < C.prog.types.size)) = true) (hres : fn.resultTypes = #[tb]) (htb : C.prog.underlying tb = some .bool)
    (hvars : s.vars = []) (hspec : ∀ ds : List (DataW H), ds.length = fn.params.toList.length → s.fn H ds = { results := [.lit (.bool true)], args := ds }) (hsh : shapes C.prog n fn.params.toList = some sh)
    (witness : ∃ (w : World) (tape : Tape) (i : Input), w.os = os ∧ (w.forCall tape i).Shaped C.prog ∧ i.vars = [] ∧ Input.okWide C.prog (w.forCall tape i) .any w.heap.size f i ∧
      s.pre6 enc C.prog fn [] false (w.forCall tape i).memory i.args ∧ ({} : Assume).holds C.prog (lone (Frame.enter C.prog f i.args .normal) [] (w.forCall tape i)))
    (walk : ∀ (W : World) (args : List Value), ArgsOk W sh args → Calls C.prog f args.toArray W fun e W' => e = .returned (.bool true) ∧ Below W.heap.size W W') :
    ReturnsInHanded {} C os f .any (s.pre6 enc C.prog fn [] false) (s.post enc C.prog fn false true false false) := by
  refine returnsInHanded_of_change_sized (C := C) own started noInit hfn witness ?_
  intro W base args ds gs before hval hW _ hwt _
  have hW' := hW
  obtain ⟨p, q, hA, hV, rfl, hfz, hnd⟩ := hW
  rw [hvars] at hV
  obtain ⟨rfl, rfl⟩ := trodVars_none hV
  simp only [List.append_nil] at hW' hwt
  have hwt' : (DataW.weightsEach C.prog fn.params.toList ds).all (· ≤ reachBytes) = true := by
    rw [List.all_eq_true] at hwt ⊢
    intro n hn
    have key : ∀ (ts us : List TypeId) (ds : List (DataW H)) (n : Nat), n ∈ DataW.weightsEach C.prog ts ds → n ∈ DataW.weightsEach C.prog (ts ++ us) ds := by
      intro ts
      induction ts with
      | nil => intro us ds n hn; simp [DataW.weightsEach] at hn
      | cons t ts ih =>
        intro us ds n hn
        cases ds with
        | nil => simp [DataW.weightsEach] at hn
        | cons d ds =>
          simp only [DataW.weightsEach, List.cons_append, List.mem_append] at hn ⊢
          rcases hn with hn | hn
          · exact .inl hn
          · exact .inr (ih us ds n hn)
    exact hwt n (key _ _ _ _ hn)
  have hok := args_ok (fun _ => rfl) n _ _ _ _ _ base hsh hA hwt' (fun j t v ht hv => hval j t v (by simpa using ht) (by simpa using hv))
  have hlen : ds.length = fn.params.toList.length := by
    have key : ∀ (ts : List TypeId) (vs : List Value) (ds : List (DataW H)) (ps : List MemPlace), DataW.TrodAll enc C.prog W 0 (fun _ => true) true ts vs ds ps → ds.length = ts.length := by
      intro ts
      induction ts with
      | nil => intro vs ds ps h; cases vs <;> cases ds <;> simp_all [DataW.TrodAll]
      | cons t ts ih =>
        intro vs ds ps h
        obtain ⟨v, vs', d, ds', p, q, rfl, rfl, rfl, h0, hrest⟩ := trodAll_cons h
        simp [ih _ _ _ hrest]
    exact key _ _ _ _ hA
  have hw := walk W args.toList hok
  rw [Array.toArray_toList] at hw
  refine hw.mono fun e W' ⟨he, bel⟩ => ⟨_, he, ?_⟩
  have hr' : s.fn H (ds ++ []) = { results := [.lit (.bool true)], args := ds } := by rw [List.append_nil]; exact hspec ds hlen
  refine ⟨ds, [], p ++ [], [], p, [], by simpa using hW', ?_, ?_, ?_, bel.frame _, fun h => by cases h⟩
  · rw [hr', hres]
    exact trodAll_mk1 (shut_bool htb _)
  · rw [hr']
    exact trodAll_below hlo bel _ _ _ _ hr hA
  · rw [hr', hvars]
    rfl

/-! ### What came in, as lists of records -/
def CellsOk (w : World) : List Leaf → List Value → Prop
  | [], vs => vs = []
  | k :: ks, vs => ∃ v vs', vs = v :: vs' ∧ CellOk w k v ∧ CellsOk w ks vs'

theorem cells_of_row {w : World} : ∀ (ks : List Leaf) (f : Nat → Option Value), RowOk w ks f → ∃ l, CellsOk w ks l ∧ ∀ j, j < ks.length → f j = l[j]?
  | [], _, _ => ⟨[], rfl, fun j hj => by simp at hj⟩
  | k :: ks, f, h => by
    simp only [RowOk] at h
    obtain ⟨⟨v, hv, hk⟩, hr⟩ := h
    obtain ⟨l, hl, hj⟩ := cells_of_row ks _ hr
    refine ⟨v :: l, ⟨v, l, rfl, hk, hl⟩, fun j hjl => ?_⟩
    cases j with
    | zero => simpa using hv
    | succ j => simpa using hj j (by simpa using hjl)
theorem CellsOk.length {w : World} : ∀ {ks : List Leaf} {l : List Value}, CellsOk w ks l → l.length = ks.length
  | [], l, h => by simp only [CellsOk] at h; simp [h]
  | k :: ks, l, h => by
    obtain ⟨v, vs, rfl, _, h2⟩ := h
    simp [CellsOk.length h2]
theorem agg_ok {w : World} {ks : List Leaf} {v : Value} (h : ArgOk w true ks v) : ∃ l, v = .agg l.toArray ∧ CellsOk w ks l := by
  obtain ⟨cs, rfl, hs, hr⟩ := h
  obtain ⟨l, hl, hj⟩ := cells_of_row _ _ hr
  refine ⟨l, ?_, hl⟩
  have : cs.toList = l := by
    apply List.ext_getElem?
    intro j
    by_cases hjl : j < ks.length
    · rw [← hj j hjl]; simp
    · rw [List.getElem?_eq_none (by simp <;> omega), List.getElem?_eq_none (by rw [hl.length]; omega)]
  rw [← this]

theorem lt_get {β : Type} {l : List β} {i : Nat} {x : β} (h : l[i]? = some x) : i < l.length := by
  rcases Nat.lt_or_ge i l.length with h' | h'
  · exact h'
  · rw [List.getElem?_eq_none h'] at h; cases h
theorem choose_list {α : Type} (n : Nat) (Q : Nat → α → Prop) (h : ∀ i, i < n → ∃ x, Q i x) : ∃ xs : List α, xs.length = n ∧ ∀ i x, xs[i]? = some x → Q i x := by
  induction n with
  | zero => exact ⟨[], rfl, fun i x hx => by simp at hx⟩
  | succ n ih =>
    obtain ⟨xs, hl, hx⟩ := ih (fun i hi => h i (by omega))
    obtain ⟨y, hy⟩ := h n (by omega)
    refine ⟨xs ++ [y], by simp [hl], fun i x hi => ?_⟩
    have hlt := lt_get hi
    rw [List.getElem?_append] at hi
    split at hi
    · exact hx i x hi
    · rename_i hge
      simp at hlt
      have hin : i = n := by omega
      subst hin
      simp [hl] at hi
      subst hi
      exact hy

/-- A slice's value reads as the records xs, m cells each. -/
structure Sl (w : World) (m : Nat) {α : Type} (f : α → List Value) (A : Option Addr) (n : Nat) (xs : List α) : Prop where
  len : n = xs.length
  get : ∀ (i : Nat) (x : α), xs[i]? = some x → ∃ b off, A = some ⟨b, off, none⟩ ∧ b < w.heap.size ∧ ∀ j, j < m → w.cell? ⟨b, off + i * m + j, none⟩ = (f x)[j]?

theorem slice_ok {w : World} {bytes : Nat} {ks : List Leaf} {v : Value} {α : Type} (f : α → List Value) (hk : 0 < ks.length) (hf : ∀ l, CellsOk w ks l → ∃ x, l = f x) (h : CellOk w (.slice bytes ks) v) :
    ∃ A n c xs, v = .slice A n c ∧ n ≤ c ∧ c ≤ maxLen ∧ c * bytes ≤ reachBytes ∧ Sl w ks.length f A n xs := by
  simp only [CellOk] at h
  obtain ⟨a, len, cap, rfl, hl, hm, hb, hnone, hr⟩ := h
  obtain ⟨xs, hxl, hx⟩ := choose_list (α := α) len (fun i x => ∃ ad, a = some ad ∧ ∀ j, j < ks.length → w.cell? (ad.add (i * ks.length + j)) = (f x)[j]? ∧ (f x).length = ks.length) (fun i hi => by
    cases a with
    | none => have := (hnone rfl).1; omega
    | some ad =>
      obtain ⟨l, hl, hj⟩ := cells_of_row _ _ (hr ad rfl i hi)
      obtain ⟨x, rfl⟩ := hf l hl
      exact ⟨x, ad, rfl, fun j hjl => ⟨hj j hjl, hl.length⟩⟩)
  refine ⟨a, len, cap, xs, rfl, hl, hm, hb, hxl.symm, fun i x hi => ?_⟩
  have hlen0 : 0 < len := by have := lt_get hi; omega
  obtain ⟨ad, rfl, hc⟩ := hx i x hi
  have hx0 : ∃ x0, xs[0]? = some x0 := ⟨_, List.getElem?_eq_getElem (by omega)⟩
  obtain ⟨x0, hx0⟩ := hx0
  obtain ⟨ad', hae, hc0⟩ := hx 0 x0 hx0
  injection hae with hae
  subst hae
  have h0 := hc0 0 hk
  simp only [Nat.zero_mul, Nat.add_zero] at h0
  have h01 : ∃ u, w.cell? ad = some u := by
    have e : ad.add 0 = ad := by simp [Addr.add]
    rw [e] at h0
    exact ⟨_, h0.1.trans (List.getElem?_eq_getElem (by rw [h0.2]; exact hk))⟩
  obtain ⟨u, hu⟩ := h01
  have hblk := World.block_lt_of_cell? w _ hu
  obtain ⟨b, off, spot⟩ := ad
  cases spot with
  | some s =>
    exfalso
    unfold World.cell? at hu
    split at hu <;> simp at hu
  | none =>
    refine ⟨b, off, rfl, hblk, fun j hj => ?_⟩
    rw [← (hc j hj).1]
    have : (⟨b, off, none⟩ : Addr).add (i * ks.length + j) = ⟨b, off + i * ks.length + j, none⟩ := by
      unfold Addr.add
      split
      · rename_i h; rw [show off + i * ks.length + j = off by omega]
      · simp [Nat.add_assoc]
    rw [this]

theorem Sl.later {w w' : World} {m : Nat} {α : Type} {f : α → List Value} {A : Option Addr} {n : Nat} {xs : List α} (h : Sl w m f A n xs) (hb : Below w.heap.size w w') : Sl w' m f A n xs :=
  ⟨h.len, fun i x hi => by
    obtain ⟨b, off, h1, h2, h3⟩ := h.get i x hi
    exact ⟨b, off, h1, Nat.lt_of_lt_of_le h2 hb.size, fun j hj => by rw [hb.cell (p := ⟨b, off + i * m + j, none⟩) h2]; exact h3 j hj⟩⟩
end Go.Tk


/- Tools of the walks of this seat, over any program: blocks known whole, what a call leaves as it was. No condition. -/
namespace Go.Tk
open Go.RowKit Go.ChangeShapes Go.WideShapes Go.Deep

/-! ### A block that is known whole -/
def Blk (w : World) (g : Nat) (t : TypeId) (cs : Array Value) : Prop := w.heap[g]? = some (.cells cs t (0, 0))

/-- Old blocks outside S are as they were. -/
structure Frm (S : Nat → Prop) (w w' : World) : Prop where
  os : w'.os = w.os
  tape : w'.tape = w.tape
  output : w'.output = w.output
  size : w.heap.size ≤ w'.heap.size
  block : ∀ i, i < w.heap.size → ¬ S i → w'.heap[i]? = w.heap[i]?

section
variable {w w' w'' : World} {S S' : Nat → Prop} {g : Nat} {t : TypeId} {cs : Array Value}

theorem heap_drewN (w : World) (n : Nat) : (w.drewN n).heap = w.heap := rfl
theorem heap_drew (w : World) : w.drew.heap = w.heap := rfl
theorem size_setCell (w : World) (a : Addr) (v : Value) : (w.setCell a v).heap.size = w.heap.size := by simp [World.setCell]

theorem Blk.lt (h : Blk w g t cs) : g < w.heap.size := by
  rcases Nat.lt_or_ge g w.heap.size with hlt | hge
  · exact hlt
  · unfold Blk at h; rw [Array.getElem?_eq_none hge] at h; cases h
theorem Blk.cell (h : Blk w g t cs) (i : Nat) : w.cell? ⟨g, i, none⟩ = cs[i]? := by
  unfold Blk at h
  simp [World.cell?, h]
theorem Blk.free (h : Blk w g t cs) (i : Nat) : w.frozen? ⟨g, i, none⟩ = false := by
  unfold Blk at h
  simp [World.frozen?, h]
theorem Blk.new (w : World) (t : TypeId) (cs : Array Value) : Blk (w.alloc (.cells cs t)) w.heap.size t cs := heap_alloc_new w _
theorem Blk.drew (h : Blk w g t cs) : Blk w.drew g t cs := h
theorem Blk.drewN (h : Blk w g t cs) (n : Nat) : Blk (w.drewN n) g t cs := h
theorem Blk.alloc (h : Blk w g t cs) (o : Obj) : Blk (w.alloc o) g t cs := (Below.heap_alloc w o g h.lt).trans h
theorem Blk.set (h : Blk w g t cs) (i : Nat) (u : Value) : Blk (w.setCell ⟨g, i, none⟩ u) g t (cs.setIfInBounds i u) := by
  unfold Blk at h ⊢
  simp [World.setCell, Array.getElem?_modify, h]
theorem Blk.far (h : Blk w g t cs) {p : Addr} (hp : g ≠ p.block) (u : Value) : Blk (w.setCell p u) g t cs := (Below.heap_setCell w p u g hp).trans h
theorem Blk.frm (h : Blk w g t cs) (hf : Frm S w w') (hs : ¬ S g) : Blk w' g t cs := (hf.block g h.lt hs).trans h
theorem Blk.below {B : Nat} (h : Blk w g t cs) (hb : Below B w w') (hg : g < B) : Blk w' g t cs := (hb.block g hg).trans h
theorem Blk.grown {row : Option Nat} (h : Blk w g t cs) (hb : w.grownBy w' row) (hg : some g ≠ row) : Blk w' g t cs := (hb.block g h.lt hg).trans h
theorem Blk.inj {cs' : Array Value} {t' : TypeId} (h : Blk w g t cs) (h' : Blk w g t' cs') : t = t' ∧ cs = cs' := by
  unfold Blk at h h'
  rw [h] at h'
  simp only [Option.some.injEq, Obj.cells.injEq] at h'
  exact ⟨h'.2.1, h'.1⟩
theorem Blk.ne {g' : Nat} {t' : TypeId} {cs' : Array Value} (h : Blk w g t cs) (h' : Blk w g' t' cs') (hne : t ≠ t') : g ≠ g' := by
  rintro rfl
  exact hne (h.inj h').1

theorem Frm.refl (S : Nat → Prop) (w : World) : Frm S w w := ⟨rfl, rfl, rfl, Nat.le_refl _, fun _ _ _ => rfl⟩
theorem Frm.trans (h : Frm S w w') (k : Frm S' w' w'') (hs : ∀ i, i < w.heap.size → S' i → S i) : Frm S w w'' :=
  ⟨k.os.trans h.os, k.tape.trans h.tape, k.output.trans h.output, Nat.le_trans h.size k.size, fun i hi hn =>
    (k.block i (Nat.lt_of_lt_of_le hi h.size) (fun hc => hn (hs i hi hc))).trans (h.block i hi hn)⟩
theorem Frm.mono (h : Frm S w w') (hs : ∀ i, i < w.heap.size → S i → S' i) : Frm S' w w' := ⟨h.os, h.tape, h.output, h.size, fun i hi hn => h.block i hi (fun hc => hn (hs i hi hc))⟩
theorem Frm.drew (h : Frm S w w') : Frm S w w'.drew := ⟨h.os, h.tape, h.output, h.size, h.block⟩
theorem Frm.drewN (h : Frm S w w') (n : Nat) : Frm S w (w'.drewN n) := ⟨h.os, h.tape, h.output, h.size, h.block⟩
theorem Frm.alloc (h : Frm S w w') (o : Obj) : Frm S w (w'.alloc o) :=
  ⟨h.os, h.tape, h.output, Nat.le_trans h.size (by simp), fun i hi hn => (Below.heap_alloc w' o i (Nat.lt_of_lt_of_le hi h.size)).trans (h.block i hi hn)⟩
theorem Frm.setCell (h : Frm S w w') {p : Addr} (hp : S p.block ∨ w.heap.size ≤ p.block) (u : Value) : Frm S w (w'.setCell p u) :=
  ⟨h.os, h.tape, h.output, by rw [size_setCell]; exact h.size, fun i hi hn => (Below.heap_setCell w' p u i (by
    rintro rfl
    rcases hp with hp | hp
    · exact hn hp
    · omega)).trans (h.block i hi hn)⟩
theorem Frm.set {S : Nat → Prop} {w w' : World} (h : Frm S w w') {g : Nat} (i : Nat) (u : Value) (hg : S g) : Frm S w (w'.setCell ⟨g, i, none⟩ u) := h.setCell (p := ⟨g, i, none⟩) (.inl hg) u
theorem Frm.setNew {S : Nat → Prop} {w w' : World} (h : Frm S w w') {g : Nat} (i : Nat) (u : Value) (hg : w.heap.size ≤ g) : Frm S w (w'.setCell ⟨g, i, none⟩ u) := h.setCell (p := ⟨g, i, none⟩) (.inr hg) u
theorem Frm.grown {row : Option Nat} (h : Frm S w w') (k : w'.grownBy w'' row) (hr : ∀ g, row = some g → S g ∨ w.heap.size ≤ g) : Frm S w w'' :=
  ⟨k.os.trans h.os, k.tape.trans h.tape, k.output.trans h.output, Nat.le_trans h.size k.size, fun i hi hn =>
    (k.block i (Nat.lt_of_lt_of_le hi h.size) (fun hc => by rcases hr i hc.symm with h | h; exact hn h; omega)).trans (h.block i hi hn)⟩
theorem Frm.of_below (h : Below w.heap.size w w') (S : Nat → Prop) : Frm S w w' := ⟨h.os, h.tape, h.output, h.size, fun i hi _ => h.block i hi⟩
theorem Frm.to_below {B : Nat} (h : Frm S w w') (hB : B ≤ w.heap.size) (hs : ∀ i, i < B → ¬ S i) : Below B w w' :=
  ⟨h.os, h.tape, h.output, h.size, fun i hi => h.block i (by omega) (hs i hi)⟩
theorem Frm.below {B : Nat} {w0 : World} (h0 : Below B w0 w) (h : Frm S w w') (hB : B ≤ w.heap.size) (hs : ∀ i, i < B → ¬ S i) : Below B w0 w' := h0.trans (h.to_below hB hs)
theorem Frm.cell (h : Frm S w w') {p : Addr} (hp : p.block < w.heap.size) (hs : ¬ S p.block) : w'.cell? p = w.cell? p := World.cell?_of_block (h.block _ hp hs)
end

/-- nothing old has turned -/
abbrev Same (w w' : World) : Prop := Frm (fun _ => False) w w'

theorem list_choose {α : Type} (n : Nat) (Q : Nat → α → Prop) (h : ∀ i, i < n → ∃ x, Q i x) : ∃ xs : List α, xs.length = n ∧ ∀ i x, xs[i]? = some x → Q i x := by
  induction n with
  | zero => exact ⟨[], rfl, fun i x hx => by simp at hx⟩
  | succ n ih =>
    obtain ⟨xs, hl, hx⟩ := ih (fun i hi => h i (by omega))
    obtain ⟨y, hy⟩ := h n (by omega)
    refine ⟨xs ++ [y], by simp [hl], fun i x hi => ?_⟩
    rw [List.getElem?_append] at hi
    split at hi
    · exact hx i x hi
    · rename_i hge
      have : i < (xs ++ [y]).length := by
        rcases Nat.lt_or_ge i (xs ++ [y]).length with h | h
        · exact h
        · simp at h; rw [List.getElem?_eq_none (by simp <;> omega)] at hi; cases hi
      simp at this
      have hin : i = n := by omega
      subst hin
      simp [hl] at hi
      subst hi
      exact hy

/-! ### Rows of structs: a list of records, m cells each -/
theorem flat_length {α β : Type} (f : α → List β) (m : Nat) (hf : ∀ x, (f x).length = m) : ∀ (l : List α), (l.flatMap f).length = l.length * m
  | [] => by simp
  | x :: l => by simp [flat_length f m hf l, hf, Nat.add_mul, Nat.add_comm]
theorem flat_get {α β : Type} (f : α → List β) (m : Nat) (hf : ∀ x, (f x).length = m) : ∀ (l : List α) (i j : Nat), j < m → (l.flatMap f)[i * m + j]? = (l[i]?).bind fun x => (f x)[j]?
  | [], i, j, _ => by simp
  | x :: l, 0, j, hj => by simp [List.getElem?_append, hf, hj]
  | x :: l, i + 1, j, hj => by
    rw [List.flatMap_cons, List.getElem?_append_right (by rw [hf, Nat.add_mul]; omega), hf]
    rw [show (i + 1) * m + j - m = i * m + j from by rw [Nat.add_mul]; omega]
    simpa using flat_get f m hf l i j hj
/-- cells written one behind the other -/
def setRow (cs : Array Value) (o : Nat) : List Value → Array Value
  | [] => cs
  | v :: vs => setRow (cs.setIfInBounds o v) (o + 1) vs
theorem setRow_size (vs : List Value) : ∀ (cs : Array Value) (o : Nat), (setRow cs o vs).size = cs.size := by
  induction vs with
  | nil => intro cs o; rfl
  | cons v vs ih => intro cs o; simp [setRow, ih]
theorem setRow_get (vs : List Value) : ∀ (cs : Array Value) (o k : Nat), o + vs.length ≤ cs.size → (setRow cs o vs)[k]? = if o ≤ k ∧ k < o + vs.length then vs[k - o]? else cs[k]? := by
  induction vs with
  | nil => intro cs o k _; simp [setRow] <;> omega
  | cons v vs ih =>
    intro cs o k h
    simp only [List.length_cons] at h
    rw [setRow, ih _ _ _ (by simp <;> omega)]
    by_cases h1 : o + 1 ≤ k ∧ k < o + 1 + vs.length
    · rw [if_pos h1, if_pos (by simp <;> omega), show k - o = (k - (o + 1)) + 1 by omega]
      simp
    · rw [if_neg h1]
      by_cases h2 : k = o
      · subst h2
        rw [if_pos (by simp)]
        simp [show k < cs.size by omega]
      · rw [if_neg (by simp <;> omega), Array.getElem?_setIfInBounds_ne (Ne.symm h2)]
theorem flat_set {α β : Type} (f : α → List β) (m : Nat) (hf : ∀ x, (f x).length = m) (l : List α) (i : Nat) (x : α) (hi : i < l.length) (hm : 0 < m) (ys : List β)
    (h : ∀ k, ys[k]? = if k / m = i then (f x)[k % m]? else (l.flatMap f)[k]?) : ys = (l.set i x).flatMap f := by
  apply List.ext_getElem?
  intro k
  rw [h k]
  have hk : k = k / m * m + k % m := by rw [Nat.mul_comm]; exact (Nat.div_add_mod k m).symm
  have hmod : k % m < m := Nat.mod_lt _ hm
  have e1 := flat_get f m hf (l.set i x) (k / m) (k % m) hmod
  have e2 := flat_get f m hf l (k / m) (k % m) hmod
  rw [← hk] at e1 e2
  rw [e1, e2, List.getElem?_set]
  by_cases hki : k / m = i
  · subst hki
    simp [hi]
  · rw [if_neg hki, if_neg (fun h => hki h.symm)]
theorem flat_store {α : Type} (f : α → List Value) (m : Nat) (hf : ∀ x, (f x).length = m) (hm : 0 < m) (l : List α) (i : Nat) (x : α) (hi : i < l.length) :
    setRow (l.flatMap f).toArray (i * m) (f x) = ((l.set i x).flatMap f).toArray := by
  have hb : i * m + m ≤ l.length * m := by
    have := Nat.mul_le_mul_right m (show i + 1 ≤ l.length by omega)
    rw [Nat.add_mul] at this
    omega
  apply Array.toList_inj.1
  rw [List.toList_toArray]
  refine flat_set f m hf l i x hi hm _ (fun k => ?_)
  rw [Array.getElem?_toList, setRow_get _ _ _ _ (by simp only [List.size_toArray]; rw [flat_length f m hf, hf]; exact hb), hf]
  have hk : k = m * (k / m) + k % m := (Nat.div_add_mod k m).symm
  have hmod : k % m < m := Nat.mod_lt _ hm
  by_cases h : k / m = i
  · rw [if_pos h, if_pos (by subst h; rw [Nat.mul_comm (k / m) m]; omega)]
    subst h
    rw [Nat.mul_comm (k / m) m]
    congr 1
    omega
  · rw [if_neg h, if_neg]
    · simp
    · intro h2
      apply h
      have : k / m = i := by
        rw [Nat.div_eq_iff hm]
        constructor
        · omega
        · omega
      exact this

/-! ### A row of the call's own, of records -/
structure Own (w : World) (e : TypeId) (m : Nat) {α : Type} (f : α → List Value) (A : Option Addr) (N C : Nat) (xs : List α) : Prop where
  len : N = xs.length
  own : w.ownsRow 0 e m (.slice A N C) N (xs.flatMap f)
section
variable {w w' : World} {e : TypeId} {m : Nat} {α : Type} {f : α → List Value} {A : Option Addr} {N C : Nat} {xs : List α}
theorem Own.nil (w : World) (e : TypeId) (m : Nat) (f : α → List Value) : Own w e m f none 0 0 [] := ⟨rfl, by simpa using World.ownsRow_nil w 0 e m⟩
theorem lt_of_get {β : Type} {l : List β} {i : Nat} {x : β} (h : l[i]? = some x) : i < l.length := by
  rcases Nat.lt_or_ge i l.length with h' | h'
  · exact h'
  · rw [List.getElem?_eq_none h'] at h; cases h
theorem Own.form (h : Own w e m f A N C xs) (hN : 0 < N) : ∃ sb, A = some ⟨sb, 0, none⟩ ∧ sb < w.heap.size := by
  rcases h.own.2 with ⟨_, h'⟩ | ⟨g, cap, cur, h1, _, h2, _⟩
  · omega
  · injection h1 with hA _ _
    exact ⟨g, hA, (Array.getElem?_eq_some_iff.1 h2).1⟩
theorem Own.get (hf : ∀ x, (f x).length = m) (h : Own w e m f A N C xs) {i : Nat} {x : α} (hi : xs[i]? = some x) : ∃ sb, A = some ⟨sb, 0, none⟩ ∧ sb < w.heap.size ∧ ∀ j, j < m → w.cell? ⟨sb, i * m + j, none⟩ = (f x)[j]? := by
  have hl := lt_of_get hi
  have hlen := h.len
  obtain ⟨sb, rfl, hs⟩ := h.form (by omega)
  refine ⟨sb, rfl, hs, fun j hj => ?_⟩
  have hb : i * m + m ≤ N * m := by
    have := Nat.mul_le_mul_right m (show i + 1 ≤ N by omega)
    rw [Nat.add_mul] at this
    omega
  rw [h.own.cellAt _ (by omega), flat_get _ m hf _ _ _ hj, hi]
  rfl
theorem Own.block (h : Own w e m f A N C xs) : ∀ a, A = some a → a.block < w.heap.size := by
  intro a ha
  subst ha
  exact (h.own.lt a.block rfl).2
theorem Own.frm {S : Nat → Prop} (h : Own w e m f A N C xs) (hs : Frm S w w') (hn : ∀ a, A = some a → ¬ S a.block) : Own w' e m f A N C xs := by
  refine ⟨h.len, h.own.1, ?_⟩
  rcases h.own.2 with hx | ⟨g, cap, cur, h1, h0, h2, h3⟩
  · exact .inl hx
  · refine .inr ⟨g, cap, cur, h1, h0, ?_, h3⟩
    have hg : g < w.heap.size := (Array.getElem?_eq_some_iff.1 h2).1
    injection h1 with hA _ _
    rw [hs.block g hg (hn _ hA)]
    exact h2
theorem Own.ne_blk {g : Nat} {t : TypeId} {cs : Array Value} (h : Own w e m f A N C xs) (hb : Blk w g t cs) (hne : e ≠ t) : ∀ a, A = some a → a.block ≠ g := by
  intro a ha hag
  subst ha
  rcases h.own.2 with ⟨hx, _⟩ | ⟨g', cap, cur, h1, _, h2, _⟩
  · cases hx
  · injection h1 with hA _ _
    injection hA with hA
    subst hA
    simp only at hag
    subst hag
    exact hne (Blk.inj (show Blk w g' e cur from h2) hb).1
end

theorem flat_set_one {α β : Type} (f : α → List β) (m : Nat) (hf : ∀ x, (f x).length = m) (l : List α) (i j : Nat) (x x' : α) (u : β) (hx : l[i]? = some x) (hj : j < m) (hx' : f x' = (f x).set j u) :
    (l.flatMap f).set (i * m + j) u = (l.set i x').flatMap f := by
  have hi := lt_of_get hx
  refine flat_set f m hf l i x' hi (by omega) _ (fun k => ?_)
  have hmod : k % m < m := Nat.mod_lt _ (by omega)
  have hk : k = k / m * m + k % m := by rw [Nat.mul_comm]; exact (Nat.div_add_mod k m).symm
  have e2 := flat_get f m hf l (k / m) (k % m) hmod
  rw [← hk] at e2
  have hb : i * m + m ≤ l.length * m := by
    have := Nat.mul_le_mul_right m (show i + 1 ≤ l.length by omega)
    rw [Nat.add_mul] at this
    omega
  rw [List.getElem?_set, flat_length f m hf]
  by_cases h1 : i * m + j = k
  · have hd : k / m = i := by rw [Nat.div_eq_iff (by omega)]; omega
    have hr : k % m = j := by
      have := hk
      rw [hd] at this
      omega
    rw [if_pos h1, if_pos (by omega), if_pos hd, hr, hx', List.getElem?_set, if_pos rfl, hf, if_pos hj]
  · rw [if_neg h1]
    by_cases hd : k / m = i
    · rw [if_pos hd, e2, hd, hx, hx', List.getElem?_set, if_neg (by intro h; apply h1; rw [hd] at hk; omega)]
      rfl
    · rw [if_neg hd]
section
variable {w w' : World} {e : TypeId} {m : Nat} {α : Type} {f : α → List Value} {A : Option Addr} {N C : Nat} {xs : List α}
theorem Own.free {sb : Nat} (h : Own w e m f (some ⟨sb, 0, none⟩) N C xs) (j : Nat) : w.frozen? ⟨sb, j, none⟩ = false := h.own.frozenAt j
theorem Own.far {p : Addr} (h : Own w e m f A N C xs) (hp : ∀ a, A = some a → a.block ≠ p.block) (u : Value) : Own (w.setCell p u) e m f A N C xs :=
  h.frm (S := fun b => b = p.block) ((Frm.refl (fun b => b = p.block) w).setCell (.inl rfl) u) (fun a ha hb => hp a ha hb)
theorem Own.store {sb : Nat} (hf : ∀ x, (f x).length = m) (h : Own w e m f (some ⟨sb, 0, none⟩) N C xs) (i j : Nat) (x x' : α) (u : Value) (hx : xs[i]? = some x) (hj : j < m) (hx' : f x' = (f x).set j u) :
    Own (w.setCell ⟨sb, i * m + j, none⟩ u) e m f (some ⟨sb, 0, none⟩) N C (xs.set i x') := by
  refine ⟨by rw [List.length_set]; exact h.len, ?_⟩
  rw [← flat_set_one f m hf xs i j x x' u hx hj hx']
  exact (h.own.stored _ u).1
end

/-- the block of a slice's row -/
def rowOf (A : Option Addr) (b : Nat) : Prop := ∃ a, A = some a ∧ a.block = b
theorem ownBlock_row {A : Option Addr} {N C b : Nat} : (Value.slice A N C).ownBlock = some b ↔ rowOf A b := by
  cases A with
  | none => simp [Value.ownBlock, rowOf]
  | some a => simp [Value.ownBlock, rowOf]

/-- cells of a block written one behind the other -/
def put (w : World) (b o : Nat) : List Value → World
  | [] => w
  | v :: vs => put (w.setCell ⟨b, o, none⟩ v) b (o + 1) vs
def setL (l : List Value) (o : Nat) : List Value → List Value
  | [] => l
  | v :: vs => setL (l.set o v) (o + 1) vs
theorem setL_setRow : ∀ (vs : List Value) (l : List Value) (o : Nat), (setRow l.toArray o vs).toList = setL l o vs
  | [], _, _ => by simp [setRow, setL]
  | v :: vs, l, o => by
    rw [setRow, setL, ← setL_setRow vs (l.set o v) (o + 1)]
    simp
theorem own_put {e : TypeId} {m sb N C : Nat} : ∀ (vs : List Value) {w : World} {ys : List Value} (o : Nat), w.ownsRow 0 e m (.slice (some ⟨sb, 0, none⟩) N C) N ys → (put w sb o vs).ownsRow 0 e m (.slice (some ⟨sb, 0, none⟩) N C) N (setL ys o vs)
  | [], _, _, _, h => h
  | v :: vs, _, _, o, h => own_put vs (o + 1) (h.stored o v).1
theorem Own.put {w : World} {e : TypeId} {m : Nat} {α : Type} {f : α → List Value} {N C sb : Nat} {xs : List α} (hf : ∀ x, (f x).length = m) (hm : 0 < m) (h : Own w e m f (some ⟨sb, 0, none⟩) N C xs) {i : Nat} (hi : i < xs.length) (x : α) :
    Own (put w sb (i * m) (f x)) e m f (some ⟨sb, 0, none⟩) N C (xs.set i x) := by
  refine ⟨by rw [List.length_set]; exact h.len, ?_⟩
  have h1 := own_put (f x) (i * m) h.own
  rw [← setL_setRow, flat_store f m hf hm xs i x hi] at h1
  simpa using h1
theorem Frm.put {S : Nat → Prop} {b : Nat} (hb : S b) : ∀ (vs : List Value) {w w' : World} (o : Nat), Frm S w w' → Frm S w (put w' b o vs)
  | [], _, _, _, h => h
  | v :: vs, _, _, o, h => Frm.put hb vs (o + 1) (h.set o v hb)
theorem Blk.put {g b : Nat} {t : TypeId} {cs : Array Value} (hb : g ≠ b) : ∀ (vs : List Value) {w : World} (o : Nat), Blk w g t cs → Blk (put w b o vs) g t cs
  | [], _, _, h => h
  | v :: vs, _, o, h => Blk.put hb vs (o + 1) (h.far (p := ⟨b, o, none⟩) hb v)
theorem Own.farPut {e : TypeId} {m : Nat} {α : Type} {f : α → List Value} {A : Option Addr} {N C b : Nat} {xs : List α} (hb : ¬ rowOf A b) : ∀ (vs : List Value) {w : World} (o : Nat), Own w e m f A N C xs → Own (Go.Tk.put w b o vs) e m f A N C xs
  | [], _, _, h => h
  | v :: vs, _, o, h => Own.farPut hb vs (o + 1) (h.far (p := ⟨b, o, none⟩) (fun a ha hab => hb ⟨a, ha, hab⟩) v)

/-! make -/
theorem made_flat {α : Type} (f : α → List Value) (m : Nat) (hf : ∀ x, (f x).length = m) (hm : 0 < m) (x : α) (n : Nat) : madeCells (f x).toArray (n * m) = ((List.replicate n x).flatMap f).toArray := by
  apply Array.toList_inj.1
  rw [List.toList_toArray]
  apply List.ext_getElem?
  intro k
  have hk : k = k / m * m + k % m := by rw [Nat.mul_comm]; exact (Nat.div_add_mod k m).symm
  have hmod : k % m < m := Nat.mod_lt _ hm
  have e := flat_get f m hf (List.replicate n x) (k / m) (k % m) hmod
  rw [← hk] at e
  rw [e]
  by_cases h : k < n * m
  · have hd : k / m < n := Nat.div_lt_of_lt_mul (by rw [Nat.mul_comm]; exact h)
    simp only [madeCells, Array.getElem?_toList, Array.getElem?_map]
    rw [Array.getElem?_range, if_pos h, List.getElem?_replicate, if_pos hd]
    simp only [Option.map_some, Option.bind_some, List.size_toArray, hf]
    rw [getElem!_pos _ _ (by simp [hf, hmod])]
    simp [hf, hmod]
  · have hd : ¬ k / m < n := by
      intro hd
      apply h
      have := Nat.mul_le_mul_right m (show k / m + 1 ≤ n by omega)
      rw [Nat.add_mul] at this
      omega
    simp only [madeCells, Array.getElem?_toList, Array.getElem?_map]
    rw [Array.getElem?_range, if_neg h, List.getElem?_replicate, if_neg hd]
    rfl
theorem run_make_n {P : Program} {t e : TypeId} {z : Value} {size bytes : Nat} (ht : P.underlying t = some (.slice e)) (hi : (P.info? e).map (fun i => (i.zero, i.size, i.bytes)) = some (some z, size, bytes))
    (kl kc : IntKind) (n : Nat) (hbytes : bytes * n ≤ 281474976710656) (h63 : n ≤ 9223372036854775807) (w : World) :
    (Instr.makeSlice t (.int kl (n : Int)) (.int kc (n : Int))).run P w = .ok (.slice (some ⟨w.heap.size, 0, none⟩) n n) (w.alloc (.cells (madeCells z.cells (n * size)) e)) := by
  obtain ⟨i, hi, hz, hs, hb⟩ := info_parts hi
  have hb' : (i.bytes : Int) * (n : Int) ≤ 281474976710656 := by
    have h : ((i.bytes * n : Nat) : Int) ≤ 281474976710656 := by rw [hb]; omega
    rwa [Int.natCast_mul] at h
  have hr := run_make (P := P) w t e i z ht hi hz kl kc n n (by omega) (by omega) hb' (by omega)
  simp only [Int.toNat_natCast, hs] at hr
  exact hr
end Go.Tk


/- Tools of the walks of this seat: a region that draws its order, whose first operations read (and call what makes memory, but turns nothing old), and whose last ones follow in the text's order. No condition. -/
namespace Go.Tk
open Go.RowKit Go.Sort

section
variable {P : Program} {ops : Array Oper} {md : Region.Mode} {C : World → Prop}

def wpAnyLQ (P : Program) (md : Region.Mode) (ops : Array Oper) (C : World → Prop) (n : Nat) (L : Array Bool → Act → Prop) : Nat → Array Bool → Act → Prop
  | 0, listed, a => L listed a
  | f + 1, listed, a =>
    Region.ready md ops listed ≠ [] ∧ ∀ i ∈ Region.ready md ops listed, i < n ∧ qOp P ops C i (wpAnyLQ P md ops C n L f (listed.setIfInBounds i true)) a

theorem wpAny_of_headQ {n g : Nat} {L : Array Bool → Act → Prop} {Q' : Exit → Act → World → Prop} (hL : ∀ listed a w, C w → L listed a → wpAny P md ops Q' g listed a w) :
    ∀ (f : Nat) (listed : Array Bool) (a : Act) (w : World), C w → wpAnyLQ P md ops C n L f listed a → wpAny P md ops Q' (f + g) listed a w
  | 0, listed, a, w, hw, h => by rw [Nat.zero_add]; exact hL _ _ _ hw h
  | f + 1, listed, a, w, hw, h => by
    rw [show f + 1 + g = (f + g) + 1 by omega]
    exact ⟨fun h0 => absurd h0 h.1, fun i hi => wpOp_of_qOp hw (fun a' w' hw' h' => wpAny_of_headQ hL f _ a' w' hw' h') (h.2 i hi).2⟩

theorem wpAnyLQ_first {n i : Nat} {oi : Oper} {v : Value} {L : Array Bool → Act → Prop} (hi : ops[i]? = some oi) (hsel : ∀ (j : Nat) (o : Oper) cs b, ops[j]? = some o → o.op ≠ .select cs b)
    (hs : Region.sinkB md ops n = true) (hc : Region.chainB md ops n = true) (hn : n < ops.size) (hin : i < n)
    (hdone : ∀ listed a, L listed a → ∀ j ∈ Region.ready md ops listed, n ≤ j) :
    ∀ (f : Nat) (listed : Array Bool) (a : Act), HeadInv md ops n listed →
      (∀ j oj, ops[j]? = some oj → j ≠ i → listed.getD j true = false → (∀ e ∈ oj.after, Region.binds md e = true → e.on ≠ i) → oi.apart ops oj = true) →
      i ∈ Region.ready md ops listed → YieldsIn P ops C oi v a →
      wpAnyLQ P md ops C n L f (listed.setIfInBounds i true) (a.put oi.dst v) → wpAnyLQ P md ops C n L (f + 1) listed a := by
  intro f
  induction f with
  | zero =>
    intro listed a inv _ hr hy H
    have hun := (mem_ready.1 hr).1
    refine ⟨fun h => (by rw [h] at hr; cases hr), fun j hj => ?_⟩
    have hjn : j < n := by
      rcases Nat.lt_or_ge j n with h | h
      · exact h
      · exact absurd hj (tail_waits hs hc hn inv _ i rfl hin hun j h)
    refine ⟨hjn, ?_⟩
    by_cases hji : j = i
    · subst hji; exact hy.qOp hi H
    · have := hdone _ _ H j (ready_mono hj hji)
      omega
  | succ f ih =>
    intro listed a inv hfree hr hy H
    have hun := (mem_ready.1 hr).1
    refine ⟨fun h => (by rw [h] at hr; cases hr), fun j hj => ?_⟩
    have hjn : j < n := by
      rcases Nat.lt_or_ge j n with h | h
      · exact h
      · exact absurd hj (tail_waits hs hc hn inv _ i rfl hin hun j h)
    refine ⟨hjn, ?_⟩
    by_cases hji : j = i
    · subst hji; exact hy.qOp hi H
    · have h1 := (H.2 j (ready_mono hj hji)).2
      obtain ⟨hjun, oj, hoj, hall⟩ := mem_ready.1 hj
      have hnot : ∀ e ∈ oj.after, Region.binds md e = true → e.on ≠ i := fun e he hb heq => by
        have h1 := hall e he hb
        rw [heq, getD_both hun] at h1
        cases h1
      have h2 := qOp_put hoj (hfree j oj hoj hji hjun hnot) (fun cs b => hsel i oi cs b hi) (fun cs b => hsel j oj cs b hoj) hy h1
      have hfree' : ∀ k ok, ops[k]? = some ok → k ≠ i → (listed.setIfInBounds j true).getD k true = false →
          (∀ e ∈ ok.after, Region.binds md e = true → e.on ≠ i) → oi.apart ops ok = true := fun k ok hk hki hun hno => by
        refine hfree k ok hk hki ?_ hno
        by_cases hjk : j = k
        · subst hjk; exact hjun
        · rw [getD_set_ne true hjk] at hun; exact hun
      refine qOp_mono (fun a' h3 => ih (listed.setIfInBounds j true) a' (inv.set hj hjn) hfree' (ready_mono hr (Ne.symm hji)) h3.1 ?_) h2
      rw [Array.setIfInBounds_comm _ _ hji]
      exact h3.2

theorem wpAnyLQ_lex {n g : Nat} {Lq : Act → Prop} (hsel : Region.noSelect ops = true) (hs : Region.sinkB md ops n = true) (hc : Region.chainB md ops n = true) (hn : n < ops.size) :
    ∀ (l : List Oper) (k : Nat) (listed : Array Bool) (a : Act), (∀ j, j < l.length → l[j]? = ops[k + j]?) → k + l.length = n → HeadInv md ops n listed →
    Region.lexHead md ops g l.length k listed = true → wpQuiet P ops C Lq l a →
    wpAnyLQ P md ops C n (fun listed' a' => Region.seqB md ops g n listed' = true ∧ Lq a') l.length listed a
  | [], k, listed, a, _, hk, _, hB, h => by
    have : k = n := by simpa using hk
    subst this
    exact ⟨by simpa [Region.lexHead] using hB, h⟩
  | o :: l, k, listed, a, hl, hk, inv, hB, h => by
    have h0 : ops[k]? = some o := by simpa using (hl 0 (by simp)).symm
    simp only [List.length_cons, Region.lexHead, Bool.and_eq_true] at hB
    obtain ⟨⟨hr, hf⟩, hB'⟩ := hB
    have hkn : k < n := by simp only [List.length_cons] at hk; omega
    have hr' : k ∈ Region.ready md ops listed := by simpa using hr
    have hst : qOp P ops C k (wpQuiet P ops C Lq l) a := by unfold qOp; simp only [h0]; exact h
    obtain ⟨v, hy, hK⟩ := yieldsIn_of_qOp h0 hst
    exact wpAnyLQ_first h0 (Region.noSelect_spec hsel) hs hc hn hkn (fun listed' a' hL => seqB_ready hL.1) l.length listed a inv (Region.free_spec h0 hf) hr' hy
      (wpAnyLQ_lex hsel hs hc hn l (k + 1) _ _ (fun j hj => by have := hl (j + 1) (by simp <;> omega); simpa [Nat.add_assoc, Nat.add_comm 1 j] using this) (by simp only [List.length_cons] at hk; omega) (inv.set hr' hkn) hB' hK)

theorem wp_region_quiet_tail {id : Nat} {Q : Exit → Act → World → Prop} {a : Act} {w : World} {l : List Oper} (n : Nat) (hm : P.follows .mixedOrders = true) (hB : Region.lexTailB .any l.toArray n = true) (hC : C { w with drawn := w.drawn + 1 })
    (h : wpQuiet P l.toArray C (fun a' => ∀ w', C w' → wpList P l.toArray Q (l.drop n) a' w') (l.take n) a) : (Code.region id l.toArray true).wp P Q a w := by
  simp only [Region.lexTailB, Bool.and_eq_true, decide_eq_true_eq] at hB
  obtain ⟨⟨⟨⟨hsel, hn⟩, hs⟩, hc⟩, hlex⟩ := hB
  have hn' : n < l.length := by simpa using hn
  have htl : (l.take n).length = n := by simp <;> omega
  have hdl : (l.drop n).length = l.toArray.size - n := by simp
  have inv0 : HeadInv .any l.toArray n (Array.replicate l.toArray.size false) :=
    ⟨by simp, fun j oj _ hl => (by rw [getD_replicate_false] at hl; cases hl), fun t _ ht => getD_in (by simpa using ht) (getD_replicate_false _ _)⟩
  have H := wpAnyLQ_lex (C := C) (md := .any) (g := l.toArray.size - n) hsel hs hc hn (l.take n) 0 _ a (fun j hj => by
    have hj' : j < n := by rw [htl] at hj; exact hj
    simp [hj']) (by simpa using htl) inv0 (by rw [htl]; exact hlex) h
  refine wp_region_any hm ?_
  have := wpAny_of_headQ (Q' := Q) (g := l.toArray.size - n) (fun listed a' w' hw' hL => by
    have := wpAny_of_seq (md := .any) (Q' := Q) (l.drop n) n listed a' w' (fun j => by simp [List.getElem?_drop]) (by rw [hdl]; exact hL.1) (hL.2 w' hw')
    rwa [hdl] at this) _ _ _ _ hC H
  rw [htl, show n + (l.toArray.size - n) = l.toArray.size by omega] at this
  exact this
end

/-- w with some blocks laid behind it, and some draws. -/
def more (w : World) (p : Regrown) : World := grow (redrawn w p.d) p.os
theorem more_same (w : World) (p : Regrown) : Same w (more w p) := Frm.of_below (below_regrown w p.d p.os) _
theorem more_of_same {w w' : World} (h : Same w w') : ∃ p, w' = more w p := regrown_of_below ⟨h.os, h.tape, h.output, h.size, fun i hi => h.block i hi id⟩
theorem more_cell (w : World) (p : Regrown) (a : Addr) (h : a.block < w.heap.size) : (more w p).cell? a = w.cell? a := (more_same w p).cell h id
theorem more_frozen (w : World) (p : Regrown) (a : Addr) (h : a.block < w.heap.size) : (more w p).frozen? a = w.frozen? a := World.frozen?_of_block ((more_same w p).block _ h id)
theorem more_lt {w : World} {g : Nat} (h : g < w.heap.size) (p : Regrown) : g < (more w p).heap.size := Nat.lt_of_lt_of_le h (more_same w p).size
theorem more_zero (w : World) : ∃ p, ({ w with drawn := w.drawn + 1 } : World) = more w p := more_of_same (Frm.drew (Frm.refl _ _))

section
variable {P : Program} {w : World}
theorem wp_quiet {id : Nat} {Q : Exit → Act → World → Prop} {a : Act} {l : List Oper} (hm : P.follows .mixedOrders = true) (hB : Region.lexB .any l.toArray = true)
    (h : wpQuiet P l.toArray (fun w' => ∃ p, w' = more w p) (fun a' => ∀ w', (∃ p, w' = more w p) → Q .normal a' w') l a) : (Code.region id l.toArray true).wp P Q a w :=
  wp_region_quiet (C := fun w' => ∃ p, w' = more w p) hm hB (more_zero w) (by simpa using h)
theorem wp_quiet_tail {id : Nat} {Q : Exit → Act → World → Prop} {a : Act} {l : List Oper} (n : Nat) (hm : P.follows .mixedOrders = true) (hB : Region.lexTailB .any l.toArray n = true)
    (h : wpQuiet P l.toArray (fun w' => ∃ p, w' = more w p) (fun a' => ∀ w', (∃ p, w' = more w p) → wpList P l.toArray Q (l.drop n) a' w') (l.take n) a) : (Code.region id l.toArray true).wp P Q a w :=
  wp_region_quiet_tail (C := fun w' => ∃ p, w' = more w p) n hm hB (more_zero w) h
/-- A callee that turns nothing old. -/
theorem quiet_call {f : FuncId} {args : Array Value} {p : Regrown} {v : Value} (h : Calls P f args (more w p) fun e w' => e = .returned v ∧ Same (more w p) w') :
    Calls P f args (more w p) fun e w'' => e = .returned v ∧ ∃ q, w'' = more w q :=
  h.mono fun _ _ ⟨he, hb⟩ => ⟨he, more_of_same ((more_same w p).trans hb (fun _ _ h => h))⟩
end
attribute [go_sem] more_cell more_frozen

theorem ret_bool {a b : Bool} (h : a = b) : Ending.returned (.bool a) = .returned (.bool b) := by rw [h]
theorem ret_int {k : IntKind} {a b : Int} (h : a = b) : Ending.returned (.int k a) = .returned (.int k b) := by rw [h]
/-! the world under a name -/
theorem wp_world {P : Program} {c : Code} {Q : Exit → Act → World → Prop} {a : Act} {w : World} (h : ∀ w1, w1 = w → c.wp P Q a w1) : c.wp P Q a w := h w rfl
theorem call_world {P : Program} {f : FuncId} {args : Array Value} {R : Ending → World → Prop} {w : World} (h : ∀ w1, w1 = w → Calls P f args w1 R) : Calls P f args w R := h w rfl
theorem list_world {P : Program} {ops : Array Oper} {l : List Oper} {Q : Exit → Act → World → Prop} {a : Act} {w : World} (h : ∀ w1, w1 = w → wpList P ops Q l a w1) : wpList P ops Q l a w := h w rfl

/-! a slice against nil -/
def isSl : Option TypeDesc → Bool
  | some (.slice _) => true
  | _ => false
theorem isSl_slice (e : TypeId) : isSl (some (.slice e)) = true := rfl
section
variable {P : Program} {t : TypeId} (w : World)
theorem isSl_spec (h : isSl (P.underlying t) = true) : ∃ e, P.underlying t = some (.slice e) := by
  unfold isSl at h
  split at h
  · rename_i e he; exact ⟨e, he⟩
  · cases h
theorem eql_sl_nil (a : Option Addr) (n c : Nat) (h : isSl (P.underlying t) = true) : (binOp .eql t (.slice a n c) (.slice none 0 0)).run P w = .ok (.bool a.isNone) w := by
  obtain ⟨e, he⟩ := isSl_spec h
  exact Lib.run_eql_slice_nil w t e a n c 0 0 he
theorem neq_sl_nil (a : Option Addr) (n c : Nat) (h : isSl (P.underlying t) = true) : (binOp .neq t (.slice a n c) (.slice none 0 0)).run P w = .ok (.bool (!a.isNone)) w := by
  obtain ⟨e, he⟩ := isSl_spec h
  exact Go.run_neq_slice_nil_any w t e a n c 0 0 he
end
attribute [go_sem] isSl_slice eql_sl_nil neq_sl_nil
end Go.Tk


/- Tools of the walks of this seat: a region that draws its order: its reading operations first, then those that make or write memory, in their one order. No condition. -/
namespace Go.Tk
open Go.RowKit Go.Sort

section
variable {P : Program} {ops : Array Oper} {md : Region.Mode} {C : World → Prop} {Q : Exit → Act → World → Prop}

theorem Oper.wp_imp {o : Oper} {a : Act} {w : World} {K K' : Act → World → Prop} {Q Q' : Exit → Act → World → Prop} (hK : ∀ a w, K a w → K' a w) (hQ : ∀ e a w, Q e a w → Q' e a w)
    (h : o.wp P a w K Q) : o.wp P a w K' Q' := by
  unfold Oper.wp at h ⊢
  generalize (execOp a.eval o).run P w = r at h ⊢
  cases r with
  | ok n w' =>
    cases n <;> simp only [Oper.upon] at h ⊢ <;> try exact hK _ _ h
    case enter f args =>
      refine h.mono fun e w'' he => ?_
      cases e with
      | returned v => exact hK _ _ he
      | panicked c => exact hQ _ _ _ he
      | outgrown => obtain ⟨a0, w0, h0⟩ := he; exact ⟨a0, w0, hQ _ _ _ h0⟩
    case row row args => exact h.mono fun v w'' he => hK _ _ he
  | halt x w' =>
    cases x <;> simp only [Oper.upon] at h ⊢
    exact hQ _ _ _ h

/-- an operation that is no call of a Go function -/
def calm : Op → Bool
  | .move _ | .assign _ | .pick .. | .load .. | .nilCheck _ | .binOp .. | .unOp .. | .convert .. | .fieldAddr .. | .field .. | .indexAddr .. | .index .. | .build .. | .slice .. | .extract .. => true
  | .call { callee := .builtin .len, .. } | .call { callee := .builtin .cap, .. } => true
  | _ => false

theorem bind_value {α : Type} {s : Sem α} {g : α → Value} {w w' : World} {f : FuncId} {args : Array Value} : (do pure (Next.value (g (← s))) : Sem Next).run P w ≠ .ok (.enter f args) w' := by
  rw [Sem.run_bind]
  generalize s.run P w = r
  cases r with
  | ok a w1 => simp
  | halt x w1 => simp [Result.andThen]
theorem panic_enter {α : Type} {s : Sem α} {k : α → Sem Next} {w w' : World} {f : FuncId} {args : Array Value} (h : ∀ a w1, (k a).run P w1 ≠ .ok (.enter f args) w') : (do let a ← s; k a : Sem Next).run P w ≠ .ok (.enter f args) w' := by
  rw [Sem.run_bind]
  generalize s.run P w = r
  cases r with
  | ok a w1 => simpa using h a w1
  | halt x w1 => simp [Result.andThen]
theorem nil_enter {w w' : World} {f : FuncId} {args : Array Value} : (runtimePanic .nilDeref : Sem Next).run P w ≠ .ok (.enter f args) w' := by
  unfold runtimePanic
  refine panic_enter fun a w1 => ?_
  simp [goPanic]

theorem calm_enter {o : Oper} {ev : Operand → Value} {w w' : World} {f : FuncId} {args : Array Value} (h : calm o.op = true) : (execOp ev o).run P w ≠ .ok (.enter f args) w' := by
  unfold execOp
  cases hop : o.op <;> rw [hop] at h <;> simp only [calm] at h <;> first | cases h | skip
  all_goals try exact bind_value
  all_goals try (simp; done)
  all_goals try exact bind_value (g := fun b : Bool => if b = true then ev _ else ev _)
  case nilCheck x =>
    dsimp only
    split <;> try exact nil_enter
    · split
      · exact nil_enter
      · refine panic_enter fun a w1 => panic_enter fun b w2 => ?_
        split
        · exact panic_enter fun _ _ => by simp
        · simp
      · simp
    · simp
  case call c =>
    obtain ⟨cal, args, at'⟩ := c
    cases cal with
    | value f => cases h
    | invoke r m => cases h
    | builtin b =>
      cases b <;> first | cases h | skip
      all_goals
        simp only [resolve, Sem.run_bind, Sem.run_pure, Result.andThen_ok, invoke, builtin]
        generalize Sem.run P _ w = r
        cases r with
        | ok a w1 => simp
        | halt x w1 => simp [Result.andThen]

/-- 'o' yields 'v', in whatever world of the class, and leaves the world alone. -/
def YC (P : Program) (ops : Array Oper) (C : World → Prop) (o : Oper) (v : Value) (a : Act) : Prop :=
  (Region.wanted o (yielded ops a.tmps) = true ∧ ∀ w, C w → ((execOp a.eval o).run P w = .ok (.value v) w ∨ ((execOp a.eval o).run P w = .ok .skip w ∧ v = undef))) ∨
  (Region.wanted o (yielded ops a.tmps) = false ∧ v = undef)

theorem YC.of_same {o : Oper} {v : Value} {a a' : Act} (hy : YC P ops C o v a) (he : execOp a'.eval o = execOp a.eval o)
    (hw : Region.wanted o (yielded ops a'.tmps) = Region.wanted o (yielded ops a.tmps)) : YC P ops C o v a' := by
  unfold YC at *
  rw [he, hw]
  exact hy

/-- One operation that comes up: it keeps the class and does not panic, but for the last one. -/
def opC (P : Program) (ops : Array Oper) (C : World → Prop) (Q : Exit → Act → World → Prop) (n i : Nat) (K : Act → World → Prop) (a : Act) (w : World) : Prop :=
  if i < n then
    match ops[i]? with
    | none => K a w
    | some o => if Region.wanted o (yielded ops a.tmps) then o.wp P a w (fun a' w' => C w' ∧ K a' w') (fun _ _ _ => False) else K (a.put o.dst undef) w
  else wpOp P ops Q i K a w

def wpAnyC (P : Program) (md : Region.Mode) (ops : Array Oper) (C : World → Prop) (Q : Exit → Act → World → Prop) (n : Nat) : Nat → Array Bool → Act → World → Prop
  | 0, listed, a, w => Region.ready md ops listed = [] ∧ Q .normal a w
  | f + 1, listed, a, w => (Region.ready md ops listed = [] → Q .normal a w) ∧ ∀ i ∈ Region.ready md ops listed, opC P ops C Q n i (wpAnyC P md ops C Q n f (listed.setIfInBounds i true)) a w

theorem opC_mono {n i : Nat} {K K' : Act → World → Prop} {a : Act} {w : World} (hK : ∀ a w, K a w → K' a w) (h : opC P ops C Q n i K a w) : opC P ops C Q n i K' a w := by
  unfold opC at *
  split at h
  · rename_i hin
    rw [if_pos hin]
    cases ho : ops[i]? with
    | none => rw [ho] at h; exact hK _ _ h
    | some o =>
      rw [ho] at h
      dsimp only at h ⊢
      split at h
      · rename_i hw; rw [if_pos hw]; exact Oper.wp_imp (fun a w h => ⟨h.1, hK _ _ h.2⟩) (fun _ _ _ h => h) h
      · rename_i hw; rw [if_neg hw]; exact hK _ _ h
  · rename_i hin
    rw [if_neg hin]
    exact wpOp_mono hK h

theorem wpAny_of_C {n : Nat} : ∀ (f : Nat) (listed : Array Bool) (a : Act) (w : World), wpAnyC P md ops C Q n f listed a w → wpAny P md ops Q f listed a w
  | 0, _, _, _, h => h
  | f + 1, listed, a, w, h => ⟨h.1, fun i hi => by
    have h2 := h.2 i hi
    unfold opC at h2
    split at h2
    · unfold wpOp
      cases ho : ops[i]? with
      | none => rw [ho] at h2; exact wpAny_of_C f _ _ _ h2
      | some o =>
        rw [ho] at h2
        dsimp only at h2 ⊢
        split at h2
        · rename_i hw; rw [if_pos hw]; exact .inl (Oper.wp_imp (fun a w h => wpAny_of_C f _ _ _ h.2) (fun _ _ _ h => h.elim) h2)
        · rename_i hw; rw [if_neg hw]; exact wpAny_of_C f _ _ _ h2
    · exact wpOp_mono (fun a w h => wpAny_of_C f _ _ _ h) h2⟩

theorem opC_of_YC {n i : Nat} {oi : Oper} {v : Value} {a : Act} {w : World} {K : Act → World → Prop} (hi : ops[i]? = some oi) (hin : i < n) (hC : C w) (hy : YC P ops C oi v a) (hK : K (a.put oi.dst v) w) : opC P ops C Q n i K a w := by
  unfold opC
  rw [if_pos hin]
  simp only [hi]
  rcases hy with ⟨hw, hv⟩ | ⟨hw, rfl⟩
  · rw [if_pos hw]
    unfold Oper.wp
    rcases hv w hC with h | ⟨h, rfl⟩
    · rw [h]; exact ⟨hC, hK⟩
    · rw [h]; exact ⟨hC, hK⟩
  · rw [if_neg (by rw [hw]; simp)]
    exact hK

theorem put_defers (a : Act) (d : Option Tmp) (v : Value) (ds : List Deferred) : ({ (a.put d v) with defers := ds } : Act) = ({ a with defers := ds } : Act).put d v := by
  cases d <;> rfl
theorem put_defers' (a : Act) (d : Option Tmp) (v : Value) : (a.put d v).defers = a.defers := by cases d <;> rfl

theorem opC_put {n j : Nat} {oi oj : Oper} {v : Value} {a : Act} {w : World} {K : Act → World → Prop} (hj : ops[j]? = some oj) (hjn : j < n) (hap : oi.apart ops oj = true)
    (hsi : ∀ cs b, oi.op ≠ .select cs b) (hsj : ∀ cs b, oj.op ≠ .select cs b) (hC : C w) (hy : YC P ops C oi v a) (h : opC P ops C Q n j K (a.put oi.dst v) w) :
    opC P ops C Q n j (fun a' w' => C w' ∧ YC P ops C oi v a' ∧ K (a'.put oi.dst v) w') a w := by
  obtain ⟨h1, h2, h3⟩ := Oper.apart_spec hap
  have keep : ∀ (a : Act), YC P ops C oi v a → ∀ u, YC P ops C oi v (a.put oj.dst u) := fun a hy u =>
    hy.of_same (execOp_put oi hsi a oj.dst u h3) (wanted_put oi a oj.dst u h3)
  have keepd : ∀ (a : Act) (ds : List Deferred), YC P ops C oi v a → YC P ops C oi v { a with defers := ds } := fun a ds hy => hy.of_same rfl rfl
  unfold opC at *
  rw [if_pos hjn] at h ⊢
  simp only [hj] at h ⊢
  rw [wanted_put oj a oi.dst v h1] at h
  split
  · rename_i hw
    rw [if_pos hw] at h
    unfold Oper.wp at h ⊢
    rw [execOp_put oj hsj a oi.dst v h1] at h
    generalize (execOp a.eval oj).run P w = r at h ⊢
    cases r with
    | ok nx w' =>
      cases nx <;> simp only [Oper.upon] at h ⊢
      case value u => exact ⟨h.1, h.1, keep a hy u, by rw [← Act.put_comm a v u h2]; exact h.2⟩
      case skip => exact ⟨h.1, h.1, keep a hy _, by rw [← Act.put_comm a v undef h2]; exact h.2⟩
      case defer d =>
        refine ⟨h.1, h.1, keep _ (keepd a _ hy) _, ?_⟩
        have h4 := h.2
        rw [put_defers', put_defers] at h4
        rw [← Act.put_comm _ v undef h2]
        exact h4
      case enter f args =>
        refine h.mono fun e w'' he => ?_
        cases e with
        | returned u => exact ⟨he.1, he.1, keep a hy u, by rw [← Act.put_comm a v u h2]; exact he.2⟩
        | panicked c => exact he.elim
        | outgrown => obtain ⟨_, _, h0⟩ := he; exact h0.elim
      case row row args => exact h.mono fun u w'' he => ⟨he.1, he.1, keep a hy u, by rw [← Act.put_comm a v u h2]; exact he.2⟩
    | halt x w' =>
      cases x <;> simp only [Oper.upon] at h
  · rename_i hw
    rw [if_neg hw] at h
    exact ⟨hC, keep a hy _, by rw [← Act.put_comm a v undef h2]; exact h⟩

theorem wpAnyC_first {n i : Nat} {oi : Oper} {v : Value} (hi : ops[i]? = some oi) (hsel : ∀ (j : Nat) (o : Oper) cs b, ops[j]? = some o → o.op ≠ .select cs b)
    (hs : Region.sinkB md ops n = true) (hc : Region.chainB md ops n = true) (hn : n < ops.size) (_hn1 : n + 1 = ops.size) (hin : i < n) :
    ∀ (f : Nat) (listed : Array Bool) (a : Act) (w : World), HeadInv md ops n listed →
      (∀ j oj, ops[j]? = some oj → j ≠ i → listed.getD j true = false → (∀ e ∈ oj.after, Region.binds md e = true → e.on ≠ i) → oi.apart ops oj = true) →
      i ∈ Region.ready md ops listed → C w → YC P ops C oi v a →
      wpAnyC P md ops C Q n f (listed.setIfInBounds i true) (a.put oi.dst v) w → wpAnyC P md ops C Q n (f + 1) listed a w := by
  intro f
  induction f with
  | zero =>
    intro listed a w _ _ hr hC hy H
    refine ⟨fun h => (by rw [h] at hr; cases hr), fun j hj => ?_⟩
    by_cases hji : j = i
    · subst hji; exact opC_of_YC hi hin hC hy H
    · have := ready_mono hj hji
      rw [H.1] at this
      cases this
  | succ f ih =>
    intro listed a w inv hfree hr hC hy H
    have hun := (mem_ready.1 hr).1
    refine ⟨fun h => (by rw [h] at hr; cases hr), fun j hj => ?_⟩
    have hjn : j < n := by
      rcases Nat.lt_or_ge j n with h | h
      · exact h
      · exact absurd hj (tail_waits hs hc hn inv _ i rfl hin hun j h)
    by_cases hji : j = i
    · subst hji; exact opC_of_YC hi hin hC hy H
    · have h1 := H.2 j (ready_mono hj hji)
      obtain ⟨hjun, oj, hoj, hall⟩ := mem_ready.1 hj
      have hnot : ∀ e ∈ oj.after, Region.binds md e = true → e.on ≠ i := fun e he hb heq => by
        have h1 := hall e he hb
        rw [heq, getD_both hun] at h1
        cases h1
      have h2 := opC_put hoj hjn (hfree j oj hoj hji hjun hnot) (fun cs b => hsel i oi cs b hi) (fun cs b => hsel j oj cs b hoj) hC hy h1
      have hfree' : ∀ k ok, ops[k]? = some ok → k ≠ i → (listed.setIfInBounds j true).getD k true = false →
          (∀ e ∈ ok.after, Region.binds md e = true → e.on ≠ i) → oi.apart ops ok = true := fun k ok hk hki hun hno => by
        refine hfree k ok hk hki ?_ hno
        by_cases hjk : j = k
        · subst hjk; exact hjun
        · rw [getD_set_ne true hjk] at hun; exact hun
      refine opC_mono (fun a' w' h3 => ih (listed.setIfInBounds j true) a' w' (inv.set hj hjn) hfree' (ready_mono hr (Ne.symm hji)) h3.1 h3.2.1 ?_) h2
      rw [Array.setIfInBounds_comm _ _ hji]
      exact h3.2.2

/-- the operations that make or write memory, in their order -/
def wpEff (P : Program) (ops : Array Oper) (C : World → Prop) (Q : Exit → Act → World → Prop) : List Oper → Act → World → Prop
  | [], a, w => Q .normal a w
  | [o], a, w => wpList P ops Q [o] a w
  | o :: o' :: rest, a, w => if Region.wanted o (yielded ops a.tmps) then o.wp P a w (fun a' w' => C w' ∧ wpEff P ops C Q (o' :: rest) a' w') (fun _ _ _ => False) else wpEff P ops C Q (o' :: rest) (a.put o.dst undef) w

def pick (l : List Oper) (is : List Nat) : List Oper := is.map fun i => l.getD i default

def effB (md : Region.Mode) (ops : Array Oper) (n : Nat) : List Nat → Array Bool → Bool
  | [], _ => false
  | [e], listed => decide (Region.ready md ops listed = [e]) && decide (e = n) && decide (Region.ready md ops (listed.setIfInBounds e true) = [])
  | e :: e' :: r, listed => decide (Region.ready md ops listed = [e]) && decide (e < n) && effB md ops n (e' :: r) (listed.setIfInBounds e true)

theorem wpAnyC_eff {n : Nat} : ∀ (es : List Nat) (listed : Array Bool) (a : Act) (w : World), effB md ops n es listed = true → (∀ e ∈ es, e < ops.size) →
    wpEff P ops C Q (pick ops.toList es) a w → wpAnyC P md ops C Q n es.length listed a w
  | [], _, _, _, h, _, _ => by simp [effB] at h
  | [e], listed, a, w, h, hlt, hw => by
    simp only [effB, Bool.and_eq_true, decide_eq_true_eq] at h
    have hel : e < ops.size := hlt e (by simp)
    have ho : ops[e]? = some ops[e] := Array.getElem?_eq_getElem hel
    refine ⟨fun h0 => (by rw [h.1.1] at h0; cases h0), fun i hi => ?_⟩
    rw [h.1.1] at hi
    obtain rfl : i = e := by simpa using hi
    have hp : pick ops.toList [i] = [ops[i]] := by simp [pick, ho]
    rw [hp] at hw
    simp only [wpEff, wpList] at hw
    unfold opC
    rw [if_neg (by omega)]
    unfold wpOp
    simp only [ho]
    split at hw
    · rename_i hwt
      rw [if_pos hwt]
      rcases hw with hw | hw
      · exact .inl (Oper.wp_imp (fun a' w' hq => ⟨h.2, hq⟩) (fun _ _ _ h => h) hw)
      · exact .inr hw
    · rename_i hwt
      rw [if_neg hwt]
      exact ⟨h.2, hw⟩
  | e :: e' :: r, listed, a, w, h, hlt, hw => by
    simp only [effB, Bool.and_eq_true, decide_eq_true_eq] at h
    have hel : e < ops.size := hlt e (by simp)
    have ho : ops[e]? = some ops[e] := Array.getElem?_eq_getElem hel
    have hel' : e' < ops.size := hlt e' (by simp)
    have ho' : ops[e']? = some ops[e'] := Array.getElem?_eq_getElem hel'
    refine ⟨fun h0 => (by rw [h.1.1] at h0; cases h0), fun i hi => ?_⟩
    rw [h.1.1] at hi
    obtain rfl : i = e := by simpa using hi
    have hp : pick ops.toList (i :: e' :: r) = ops[i] :: ops[e'] :: pick ops.toList r := by simp [pick, ho, ho']
    have hp' : pick ops.toList (e' :: r) = ops[e'] :: pick ops.toList r := by simp [pick, ho']
    rw [hp] at hw
    simp only [wpEff] at hw
    rw [← hp'] at hw
    have ih := fun a' w' => wpAnyC_eff (e' :: r) (listed.setIfInBounds i true) a' w' h.2 (fun e he => hlt e (List.mem_cons_of_mem _ he))
    unfold opC
    rw [if_pos h.1.2]
    simp only [ho]
    split at hw
    · rename_i hwt
      rw [if_pos hwt]
      exact Oper.wp_imp (fun a' w' hq => ⟨hq.1, ih a' w' hq.2⟩) (fun _ _ _ h => h) hw
    · rename_i hwt
      rw [if_neg hwt]
      exact ih _ _ hw

def mixB (md : Region.Mode) (ops : Array Oper) (n : Nat) (es : List Nat) : List Nat → Array Bool → Bool
  | [], listed => effB md ops n es listed
  | i :: r, listed => decide (i < n) && (match ops[i]? with | some o => calm o.op | none => false) && (Region.ready md ops listed).contains i && Region.free md ops listed i && mixB md ops n es r (listed.setIfInBounds i true)

theorem wpAnyC_mix {n : Nat} {es : List Nat} (hsel : Region.noSelect ops = true) (hs : Region.sinkB md ops n = true) (hc : Region.chainB md ops n = true) (hn1 : n + 1 = ops.size) (hes : ∀ e ∈ es, e < ops.size) {w : World} (hC : C w) :
    ∀ (is : List Nat) (listed : Array Bool) (a : Act), mixB md ops n es is listed = true → HeadInv md ops n listed →
      wpQuiet P ops C (fun a' => wpEff P ops C Q (pick ops.toList es) a' w) (pick ops.toList is) a → wpAnyC P md ops C Q n (is.length + es.length) listed a w
  | [], listed, a, hB, _, h => by
    rw [List.length_nil, Nat.zero_add]
    exact wpAnyC_eff es listed a w hB hes h
  | i :: r, listed, a, hB, inv, h => by
    simp only [mixB, Bool.and_eq_true, decide_eq_true_eq] at hB
    obtain ⟨⟨⟨⟨hin, hcalm⟩, hr⟩, hf⟩, hB'⟩ := hB
    have hel : i < ops.size := by omega
    have ho : ops[i]? = some ops[i] := Array.getElem?_eq_getElem hel
    simp only [ho] at hcalm
    have hr' : i ∈ Region.ready md ops listed := by simpa using hr
    have hp : pick ops.toList (i :: r) = ops[i] :: pick ops.toList r := by simp [pick, ho]
    rw [hp] at h
    rw [List.length_cons, show r.length + 1 + es.length = (r.length + es.length) + 1 by omega]
    simp only [wpQuiet] at h
    split at h
    · rename_i hw
      obtain ⟨v, hv, hK⟩ := h
      refine wpAnyC_first ho (Region.noSelect_spec hsel) hs hc (by omega) hn1 hin _ listed a w inv (Region.free_spec ho hf) hr' hC (v := v) ?_ (wpAnyC_mix hsel hs hc hn1 hes hC r _ _ hB' (inv.set hr' hin) hK)
      refine .inl ⟨hw, fun w hw' => ?_⟩
      have h3 := hv w hw'
      unfold Oper.quietAt at h3
      have hne := fun w' f args => calm_enter (P := P) (ev := a.eval) (w := w) (w' := w') (f := f) (args := args) hcalm
      generalize (execOp a.eval ops[i]).run P w = res at h3 hne ⊢
      cases res with
      | ok nx w' =>
        cases nx <;> simp only [Oper.quietUpon] at h3
        case value u => obtain ⟨rfl, rfl⟩ := h3; exact .inl rfl
        case skip => obtain ⟨rfl, rfl⟩ := h3; exact .inr ⟨rfl, rfl⟩
        case enter f args => exact absurd rfl (hne w' f args)
      | halt x w' => simp only [Oper.quietUpon] at h3
    · rename_i hw
      exact wpAnyC_first ho (Region.noSelect_spec hsel) hs hc (by omega) hn1 hin _ listed a w inv (Region.free_spec ho hf) hr' hC (v := undef) (.inr ⟨by simpa using hw, rfl⟩) (wpAnyC_mix hsel hs hc hn1 hes hC r _ _ hB' (inv.set hr' hin) h)

/-- Reading operations 'is' first, then 'es', the last of which stands last in the text. 'C': what the reading operations read is the same in all its worlds. -/
theorem wp_mix {id : Nat} {a : Act} {w : World} {l : List Oper} (C : World → Prop) (is es : List Nat) (hm : P.follows .mixedOrders = true)
    (hB : (Region.noSelect l.toArray && Region.sinkB .any l.toArray (l.length - 1) && Region.chainB .any l.toArray (l.length - 1) && decide (0 < l.length) && es.all (fun e => decide (e < l.length)) && decide (is.length + es.length = l.length) &&
      mixB .any l.toArray (l.length - 1) es is (Array.replicate l.length false)) = true)
    (hC : C w.drew) (h : wpQuiet P l.toArray C (fun a' => wpEff P l.toArray C Q (pick l es) a' w.drew) (pick l is) a) : (Code.region id l.toArray true).wp P Q a w := by
  simp only [Bool.and_eq_true, decide_eq_true_eq] at hB
  obtain ⟨⟨⟨⟨⟨⟨hsel, hs⟩, hc⟩, hl0⟩, hes⟩, hlen⟩, hmix⟩ := hB
  have hes' : ∀ e ∈ es, e < l.toArray.size := fun e he => by
    have := List.all_eq_true.1 hes e he
    simpa using this
  have inv0 : HeadInv .any l.toArray (l.length - 1) (Array.replicate l.length false) :=
    ⟨by simp, fun j oj _ hl => (by rw [getD_replicate_false] at hl; cases hl), fun t _ ht => getD_in (by simpa using ht) (getD_replicate_false _ _)⟩
  have H := wpAnyC_mix (P := P) (md := .any) (ops := l.toArray) (C := C) (Q := Q) hsel hs hc (by simp <;> omega) hes' hC is _ a hmix inv0 (by simpa using h)
  refine wp_region_any hm ?_
  have := wpAny_of_C _ _ _ _ H
  rw [hlen] at this
  simpa using this

theorem wpEff_step {o o' : Oper} {rest : List Oper} {a : Act} {w : World}
    (h : ∀ K : Act → World → Prop, (∀ a w, C w → wpEff P ops C Q (o' :: rest) a w → K a w) → if Region.wanted o (yielded ops a.tmps) then o.wp P a w K (fun _ _ _ => False) else (C w → K (a.put o.dst undef) w)) (hC : C w) :
    wpEff P ops C Q (o :: o' :: rest) a w := by
  have h1 := h (fun a w => C w ∧ wpEff P ops C Q (o' :: rest) a w) (fun a w hc hw => ⟨hc, hw⟩)
  unfold wpEff
  split
  · rename_i hw; rw [if_pos hw] at h1; exact h1
  · rename_i hw; rw [if_neg hw] at h1; exact (h1 hC).2
theorem wpEff_plain {o o' : Oper} {rest : List Oper} {a : Act} {w : World} (hg : o.guard = none)
    (h : ∀ K : Act → World → Prop, (∀ a w, C w → wpEff P ops C Q (o' :: rest) a w → K a w) → o.wp P a w K (fun _ _ _ => False)) :
    wpEff P ops C Q (o :: o' :: rest) a w := by
  have h1 := h (fun a w => C w ∧ wpEff P ops C Q (o' :: rest) a w) (fun a w hc hw => ⟨hc, hw⟩)
  unfold wpEff
  rw [if_pos (by simp [Region.wanted, hg])]
  exact h1
theorem wpEff_last {o : Oper} {a : Act} {w : World} (h : wpList P ops Q [o] a w) : wpEff P ops C Q [o] a w := h
end

/-- w, later: old blocks outside S are as they were. -/
structure Lat (S : Nat → Prop) (w0 : World) where
  w : World
  frm : Frm S w0 w
instance Lat.inh (S : Nat → Prop) (w0 : World) : Inhabited (Lat S w0) := ⟨⟨w0, Frm.refl S w0⟩⟩
def lat {S : Nat → Prop} {w0 : World} (p : Lat S w0) : World := p.w
theorem Lat.of {S : Nat → Prop} {w0 : World} (p : Lat S w0) : Frm S w0 (lat p) := p.frm
theorem Lat.cell {S : Nat → Prop} {w0 : World} (p : Lat S w0) (a : Addr) (h : a.block < w0.heap.size) (hs : ¬ S a.block) : (lat p).cell? a = w0.cell? a := p.frm.cell h hs
theorem Lat.frozen {S : Nat → Prop} {w0 : World} (p : Lat S w0) (a : Addr) (h : a.block < w0.heap.size) (hs : ¬ S a.block) : (lat p).frozen? a = w0.frozen? a := World.frozen?_of_block (p.frm.block _ h hs)
theorem Lat.mk_ {S : Nat → Prop} {w0 w : World} (h : Frm S w0 w) : ∃ p : Lat S w0, w = lat p := ⟨⟨w, h⟩, rfl⟩
attribute [go_sem] Lat.cell Lat.frozen
/-- the class: what is later than w0, turned in S alone -/
theorem wp_mixS {P : Program} {Q : Exit → Act → World → Prop} {id : Nat} {a : Act} {w : World} {l : List Oper} (S : Nat → Prop) (is es : List Nat) (hm : P.follows .mixedOrders = true)
    (hB : (Region.noSelect l.toArray && Region.sinkB .any l.toArray (l.length - 1) && Region.chainB .any l.toArray (l.length - 1) && decide (0 < l.length) && es.all (fun e => decide (e < l.length)) && decide (is.length + es.length = l.length) &&
      mixB .any l.toArray (l.length - 1) es is (Array.replicate l.length false)) = true)
    (h : wpQuiet P l.toArray (fun w' => ∃ p : Lat S w, w' = lat p) (fun a' => wpEff P l.toArray (fun w' => ∃ p : Lat S w, w' = lat p) Q (pick l es) a' w.drew) (pick l is) a) : (Code.region id l.toArray true).wp P Q a w :=
  wp_mix (fun w' => ∃ p : Lat S w, w' = lat p) is es hm hB (Lat.mk_ (Frm.drew (Frm.refl S w))) h

/-! append of one record, laid in a block of its own -/
theorem news_of_blk {w : World} {nb : Nat} {e : TypeId} {l : List Value} (h : Blk w nb e l.toArray) : ∀ j u, l[j]? = some u → w.cell? ((⟨nb, 0, none⟩ : Addr).add j) = some u := by
  intro j u hj
  have hadd : (⟨nb, 0, none⟩ : Addr).add j = ⟨nb, j, none⟩ := by unfold Addr.add; split <;> simp_all
  rw [hadd, h.cell]
  simpa using hj
theorem Own.append {P : Program} {o : Oper} {a : Act} {w : World} {K : Act → World → Prop} {Q : Exit → Act → World → Prop} {e : TypeId} {m : Nat} {α : Type} {f : α → List Value} {A : Option Addr} {N C : Nat} {xs : List α}
    (s x : Operand) (t : TypeId) (ho : o.op = .call { callee := .builtin .append, args := #[s, x], argTypes := #[t, t] }) (ht : P.underlying t = some (.slice e))
    {z : Value} {bytes : Nat} (hinfo : (P.info? e).map (fun i => (i.zero, i.size, i.bytes)) = some (some z, m, bytes)) (hzs : z.cells.size = m) (hm : 0 < m)
    (hs : a.eval s = .slice A N C) (h : Own w e m f A N C xs) (hf : ∀ x, (f x).length = m) (x0 : α) (nb cx : Nat) (hx : a.eval x = .slice (some ⟨nb, 0, none⟩) 1 cx) (hnb : Blk w nb e (f x0).toArray)
    (h1 : ∀ u ∈ f x0, u.oneCell' = true) (h63 : xs.length + 1 ≤ maxLen) (hb : (xs.length + 1) * bytes ≤ 140737488355328)
    (hK : ∀ g cap w', Own w' e m f (some ⟨g, 0, none⟩) (N + 1) cap (xs ++ [x0]) → w.grownBy w' (Value.slice A N C).ownBlock → ((Value.slice A N C).ownBlock = some g ∨ g = w.heap.size) → K (a.put o.dst (.slice (some ⟨g, 0, none⟩) (N + 1) cap)) w') :
    o.wp P a w K Q := by
  obtain ⟨i, hi, hz, hsz, hby⟩ := info_parts hinfo
  obtain rfl := h.len
  refine wp_append_lies w s x t ho 0 e i z m bytes ht hi hz hsz hby hzs hm _ _ _ hs h.own ⟨nb, 0, none⟩ 1 cx (f x0) hx (by rw [hf, Nat.one_mul]) (news_of_blk hnb) h1 (by omega) h63 hb (Nat.zero_le _) w.heap.size rfl ?_
  intro g cap w' hown hg hat _
  refine hK g cap w' ⟨by simp, ?_⟩ hg hat
  simpa using hown
theorem Own.append_list {P : Program} {ops : Array Oper} {rest : List Oper} {o : Oper} {a : Act} {w : World} {Q : Exit → Act → World → Prop} {e : TypeId} {m : Nat} {α : Type} {f : α → List Value} {A : Option Addr} {N C : Nat} {xs : List α} (hgd : o.guard = none)
    (s x : Operand) (t : TypeId) (ho : o.op = .call { callee := .builtin .append, args := #[s, x], argTypes := #[t, t] }) (ht : P.underlying t = some (.slice e))
    {z : Value} {bytes : Nat} (hinfo : (P.info? e).map (fun i => (i.zero, i.size, i.bytes)) = some (some z, m, bytes)) (hzs : z.cells.size = m) (hm : 0 < m)
    (hs : a.eval s = .slice A N C) (h : Own w e m f A N C xs) (hf : ∀ x, (f x).length = m) (x0 : α) (nb cx : Nat) (hx : a.eval x = .slice (some ⟨nb, 0, none⟩) 1 cx) (hnb : Blk w nb e (f x0).toArray)
    (h1 : ∀ u ∈ f x0, u.oneCell' = true) (h63 : xs.length + 1 ≤ maxLen) (hb : (xs.length + 1) * bytes ≤ 140737488355328)
    (hK : ∀ g cap w', Own w' e m f (some ⟨g, 0, none⟩) (N + 1) cap (xs ++ [x0]) → w.grownBy w' (Value.slice A N C).ownBlock → ((Value.slice A N C).ownBlock = some g ∨ g = w.heap.size) → wpList P ops Q rest (a.put o.dst (.slice (some ⟨g, 0, none⟩) (N + 1) cap)) w') :
    wpList P ops Q (o :: rest) a w :=
  wpList_plain hgd fun _ hk => Own.append s x t ho ht hinfo hzs hm hs h hf x0 nb cx hx hnb h1 h63 hb fun g cap w' a b c => hk _ _ (hK g cap w' a b c)
end Go.Tk


/- Tools of the walks of this seat: lists of integers, read and made. No condition. -/
namespace Go.Tk
open Go.RowKit Go.ChangeShapes Go.WideShapes Go.Deep

def icell (x : Int) : List Value := [.int .i64 x]
theorem icell_len (x : Int) : (icell x).length = 1 := rfl
/-- a slice of ints, wherever it lies -/
abbrev IL (w : World) (A : Option Addr) (n : Nat) (xs : List Int) : Prop := Sl w 1 icell A n xs
/-- a row of one-cell things of the call's own -/
abbrev Row1 (w : World) (e : TypeId) {α : Type} (c : α → Value) (A : Option Addr) (N C : Nat) (xs : List α) : Prop := Own w e 1 (fun x => [c x]) A N C xs
abbrev OwnI (w : World) (e : TypeId) (A : Option Addr) (N C : Nat) (xs : List Int) : Prop := Own w e 1 icell A N C xs

section
variable {w w' : World} {e : TypeId} {α : Type} {c : α → Value} {A : Option Addr} {N C n : Nat} {xs : List α}
theorem Sl.at1 {xs : List Int} (h : IL w A n xs) {i : Nat} {x : Int} (hi : xs[i]? = some x) : ∃ b off, A = some ⟨b, off, none⟩ ∧ b < w.heap.size ∧ w.cell? ⟨b, off + i, none⟩ = some (.int .i64 x) := by
  obtain ⟨b, off, h1, h2, h3⟩ := h.get i x hi
  refine ⟨b, off, h1, h2, ?_⟩
  have := h3 0 (by omega)
  simpa [icell] using this
theorem Sl.same {m : Nat} {f : α → List Value} (h : Sl w m f A n xs) (hs : Same w w') : Sl w' m f A n xs := h.later (hs.to_below (Nat.le_refl _) (fun _ _ => id))
theorem Own.sl {m : Nat} {f : α → List Value} (hf : ∀ x, (f x).length = m) (h : Own w e m f A N C xs) : Sl w m f A N xs :=
  ⟨h.len, fun i x hi => by
    obtain ⟨sb, rfl, h1, h2⟩ := h.get hf hi
    exact ⟨sb, 0, rfl, h1, fun j hj => by rw [Nat.zero_add]; exact h2 j hj⟩⟩
theorem Own.il {xs : List Int} (h : OwnI w e A N C xs) : IL w A N xs := h.sl icell_len
theorem Own.at1 (h : Row1 w e c A N C xs) {i : Nat} {x : α} (hi : xs[i]? = some x) : ∃ sb, A = some ⟨sb, 0, none⟩ ∧ sb < w.heap.size ∧ w.cell? ⟨sb, i, none⟩ = some (c x) := by
  obtain ⟨sb, h1, h2, h3⟩ := Own.get (m := 1) (f := fun x => [c x]) (fun _ => rfl) h hi
  refine ⟨sb, h1, h2, ?_⟩
  have := h3 0 (by omega)
  simpa using this
theorem Own.put1 {sb : Nat} (h : Row1 w e c (some ⟨sb, 0, none⟩) N C xs) {i : Nat} (hi : i < xs.length) (x' : α) : Row1 (w.setCell ⟨sb, i, none⟩ (c x')) e c (some ⟨sb, 0, none⟩) N C (xs.set i x') := by
  have := Own.store (m := 1) (f := fun x => [c x]) (fun _ => rfl) h i 0 (xs[i]) x' (c x') (List.getElem?_eq_getElem hi) (by omega) rfl
  simpa using this
theorem Own.form1 (h : Row1 w e c A N C xs) (hN : 0 < xs.length) : ∃ sb, A = some ⟨sb, 0, none⟩ ∧ sb < w.heap.size := h.form (by have := h.len; omega)
theorem Own.ofMade (w : World) (e : TypeId) {m : Nat} (f : α → List Value) (hf : ∀ x, (f x).length = m) (hm : 0 < m) (x : α) (n : Nat) (hmax : n ≤ maxLen) {cs : Array Value} (hcs : cs = madeCells (f x).toArray (n * m)) :
    Own (w.alloc (.cells cs e)) e m f (some ⟨w.heap.size, 0, none⟩) n n (List.replicate n x) := by
  subst hcs
  rw [made_flat f m hf hm]
  refine ⟨by simp, by rw [flat_length f m hf]; simp, .inr ⟨w.heap.size, n, _, rfl, Nat.zero_le _, heap_alloc_new w _, Nat.le_refl _, hmax, ?_, ?_⟩⟩
  · rw [List.size_toArray, flat_length f m hf, List.length_replicate]
  · rw [List.toList_toArray]
    apply List.take_of_length_le
    rw [flat_length f m hf, List.length_replicate]
    exact Nat.le_refl _
theorem Own.lit (w : World) (e : TypeId) {m : Nat} (f : α → List Value) (hf : ∀ x, (f x).length = m) (xs : List α) (hmax : xs.length ≤ maxLen) {cs : Array Value} (hcs : cs = (xs.flatMap f).toArray) :
    Own (w.alloc (.cells cs e)) e m f (some ⟨w.heap.size, 0, none⟩) xs.length xs.length xs := by
  subst hcs
  refine ⟨rfl, flat_length f m hf xs, .inr ⟨w.heap.size, xs.length, _, rfl, Nat.zero_le _, heap_alloc_new w _, Nat.le_refl _, hmax, ?_, ?_⟩⟩
  · rw [List.size_toArray, flat_length f m hf]
  · rw [List.toList_toArray]
    apply List.take_of_length_le
    rw [flat_length f m hf]
    exact Nat.le_refl _
/-- the row lies in new memory -/
def Fresh (B : Nat) (A : Option Addr) : Prop := ∀ b, rowOf A b → B ≤ b
theorem fresh_none (B : Nat) : Fresh B none := by rintro b ⟨a, h, _⟩; cases h
theorem fresh_some {B b off : Nat} (h : B ≤ b) : Fresh B (some ⟨b, off, none⟩) := by rintro b' ⟨a, ha, rfl⟩; injection ha with ha; subst ha; exact h
end
theorem Own.pop {w : World} {e : TypeId} {m : Nat} {α : Type} {f : α → List Value} {A : Option Addr} {N C : Nat} {xs : List α} {x : α} (hf : ∀ x, (f x).length = m) (h : Own w e m f A N C (xs ++ [x])) : Own w e m f A xs.length C xs := by
  have hl := h.len
  simp at hl
  refine ⟨rfl, flat_length f m hf xs, ?_⟩
  rcases h.own.2 with ⟨_, h0⟩ | ⟨g, cap, cur, h1, h0, h2, h3, h4, h5, h6⟩
  · omega
  · injection h1 with hA _ hC
    subst hA hC
    refine .inr ⟨g, _, cur, rfl, h0, h2, by omega, h4, h5, ?_⟩
    have h7 := congrArg (List.take (xs.length * m)) h6
    rw [List.take_take, hl, Nat.min_eq_left (Nat.mul_le_mul_right m (by omega)), List.flatMap_append, List.take_append_of_le_length (by rw [flat_length f m hf]; exact Nat.le_refl _)] at h7
    rw [h7]
    exact List.take_of_length_le (by rw [flat_length f m hf]; exact Nat.le_refl _)
theorem Own.pop1 {w : World} {e : TypeId} {α : Type} {c : α → Value} {A : Option Addr} {N C : Nat} {xs : List α} {x : α} (h : Row1 w e c A N C (xs ++ [x])) : Row1 w e c A xs.length C xs :=
  Own.pop (m := 1) (f := fun x => [c x]) (fun _ => rfl) h
theorem Own.ne_own {w : World} {e e' : TypeId} {m m' : Nat} {α β : Type} {f : α → List Value} {f' : β → List Value} {A A' : Option Addr} {N C N' C' : Nat} {xs : List α} {ys : List β} (h : Own w e m f A N C xs) (h' : Own w e' m' f' A' N' C' ys) (hne : e ≠ e') :
    ∀ b, rowOf A b → ¬ rowOf A' b := by
  rintro b ⟨a, ha, hb⟩ ⟨a', ha', hb'⟩
  subst ha ha'
  rcases h.own.2 with ⟨h0, _⟩ | ⟨g, cap, cur, h1, _, h2, _⟩
  · cases h0
  · rcases h'.own.2 with ⟨h0, _⟩ | ⟨g', cap', cur', h1', _, h2', _⟩
    · cases h0
    · injection h1 with hA _ _
      injection hA with hA
      injection h1' with hA' _ _
      injection hA' with hA'
      subst hA hA'
      simp only at hb hb'
      subst hb hb'
      exact hne (Blk.inj (show Blk w g' e cur from h2) (show Blk w g' e' cur' from h2')).1
theorem grow_fresh {w w' : World} {A : Option Addr} {N C B : Nat} {S : Nat → Prop} (h : w.grownBy w' (Value.slice A N C).ownBlock) (hs : Frm S w w) (hA : Fresh B A) (hB : B ≤ w.heap.size) : Below B w w' := by
  have := hs
  exact Frm.to_below (S := fun b => rowOf A b) ((Frm.refl _ _).grown h (fun g hg => .inl (ownBlock_row.1 hg))) hB (fun i hi hr => by have := hA i hr; omega)
end Go.Tk


/- Append of a whole slice of records to a row: general. -/
namespace Go.Tk
open Go.RowKit

theorem run_append_zero {P : Program} {w : World} {t ty e : TypeId} {m : Nat} {α : Type} {f : α → List Value} {A : Option Addr} {N C : Nat} {xs : List α} (ht : P.underlying t = some (.slice e))
    {z : Value} {bytes : Nat} (hinfo : (P.info? e).map (fun i => (i.zero, i.size, i.bytes)) = some (some z, m, bytes)) (h : Own w e m f A N C xs) (ao : Option Addr) (c : Nat) :
    (Builtin.append_ #[t, t] ty #[.slice A N C, .slice ao 0 c]).run P w = .ok (.slice A N C) w := by
  obtain ⟨i, hi, hz, hsz, hby⟩ := info_parts hinfo
  obtain rfl := h.len
  rcases h.own.2 with ⟨h1, h2⟩ | ⟨g, cap, cur, h1, _, _, hnc, _⟩
  · simp only [Value.slice.injEq] at h1
    obtain ⟨rfl, h0, rfl⟩ := h1
    rw [h0]
    cases ao <;> simp [Builtin.append_, run_underlying ht, sizeOf, typeInfo, hi, Builtin.lenOf, Builtin.firstCells, loadCells, loadCellsFrom]
  · cases h1
    cases ao <;> simp [Builtin.append_, run_underlying ht, sizeOf, typeInfo, hi, Builtin.lenOf, Builtin.firstCells, hnc, storeCells, loadCells, loadCellsFrom]
theorem Own.append_many {P : Program} {o : Oper} {a : Act} {w : World} {K : Act → World → Prop} {Q : Exit → Act → World → Prop} {e : TypeId} {m : Nat} {α : Type} {f : α → List Value} {A : Option Addr} {N C : Nat} {xs : List α}
    (s x : Operand) (t : TypeId) (ho : o.op = .call { callee := .builtin .append, args := #[s, x], argTypes := #[t, t] }) (ht : P.underlying t = some (.slice e))
    {z : Value} {bytes : Nat} (hinfo : (P.info? e).map (fun i => (i.zero, i.size, i.bytes)) = some (some z, m, bytes)) (hzs : z.cells.size = m) (hm : 0 < m)
    (hs : a.eval s = .slice A N C) (h : Own w e m f A N C xs) (hf : ∀ x, (f x).length = m) (ys : List α) (ao : Option Addr) (cx : Nat) (hx : a.eval x = .slice ao ys.length cx)
    (hne : ys ≠ [] → ∃ ad, ao = some ad ∧ ∀ j u, (ys.flatMap f)[j]? = some u → w.cell? (ad.add j) = some u)
    (h1 : ∀ y ∈ ys, ∀ u ∈ f y, u.oneCell' = true) (h63 : xs.length + ys.length ≤ maxLen) (hb : (xs.length + ys.length) * bytes ≤ 140737488355328)
    (hK : ∀ A' C' w', Own w' e m f A' (xs ++ ys).length C' (xs ++ ys) → w.grownBy w' (Value.slice A N C).ownBlock → (∀ b, rowOf A' b → rowOf A b ∨ b = w.heap.size) → K (a.put o.dst (.slice A' (xs ++ ys).length C')) w') :
    o.wp P a w K Q := by
  obtain ⟨i, hi, hz, hsz, hby⟩ := info_parts hinfo
  obtain rfl := h.len
  cases ys with
  | nil =>
    have hr := run_append_zero (P := P) (ty := o.type) ht hinfo h ao cx
    have hx' : a.eval x = .slice ao 0 cx := hx
    unfold Oper.wp execOp
    simp only [ho, resolve, invoke, builtin, Sem.run_bind, Sem.run_pure, Result.andThen_ok, List.map_toArray, List.map_cons, List.map_nil, hs, hx', hr]
    have hk : K (a.put o.dst (.slice A xs.length C)) w := by simpa using hK A C w (by simpa using h) (World.grownBy.refl _ _) (fun b hb => .inl hb)
    exact hk
  | cons y ys =>
    obtain ⟨ad, rfl, hc⟩ := hne (by simp)
    refine wp_append_lies w s x t ho 0 e i z m bytes ht hi hz hsz hby hzs hm _ _ _ hs h.own ad (y :: ys).length cx ((y :: ys).flatMap f) hx (flat_length f m hf _) hc (fun u hu => ?_) (by simp) h63 hb (Nat.zero_le _) w.heap.size rfl ?_
    · obtain ⟨y', hy', hu'⟩ := List.mem_flatMap.1 hu
      exact h1 y' hy' u hu'
    · intro g cap w' hown hg hat _
      rw [← List.length_append] at hown ⊢
      refine hK _ _ w' ⟨rfl, ?_⟩ hg ?_
      · simpa using hown
      · rintro b ⟨a', ha, rfl⟩
        injection ha with ha
        subst ha
        rcases hat with h | h
        · exact .inl (ownBlock_row.1 h)
        · exact .inr h
end Go.Tk


/- Append to a row: what it was still reads as it did. General. -/
namespace Go.Tk
open Go.RowKit

/-- the beginning of a row -/
theorem Own.front {w : World} {e : TypeId} {m : Nat} {α : Type} {f : α → List Value} {A : Option Addr} {N C : Nat} {xs ys : List α} (hf : ∀ x, (f x).length = m) (h : Own w e m f A N C (xs ++ ys)) : Own w e m f A xs.length C xs := by
  have hl := h.len
  rw [List.length_append] at hl
  refine ⟨rfl, flat_length f m hf xs, ?_⟩
  rcases h.own.2 with ⟨h0, hn⟩ | ⟨g, cap, cur, h1, h0, h2, h3, h4, h5, h6⟩
  · injection h0 with hA _ hC
    subst hA hC
    have hx : xs.length = 0 := by omega
    exact .inl ⟨by rw [hx], hx⟩
  · injection h1 with hA _ hC
    subst hA hC
    refine .inr ⟨g, _, cur, rfl, h0, h2, by omega, h4, h5, ?_⟩
    have h7 := congrArg (List.take (xs.length * m)) h6
    rw [List.take_take, hl, Nat.min_eq_left (Nat.mul_le_mul_right m (by omega)), List.flatMap_append, List.take_append_of_le_length (by rw [flat_length f m hf]; exact Nat.le_refl _)] at h7
    rw [h7, List.take_of_length_le (by rw [flat_length f m hf]; exact Nat.le_refl _)]
theorem Own.keptBy {w w' : World} {e : TypeId} {m : Nat} {α : Type} {f : α → List Value} {A : Option Addr} {N C : Nat} {xs : List α} {row : Option Nat} (h : Own w e m f A N C xs) (hg : w.grownBy w' row) (hne : ∀ b, row = some b → ¬ rowOf A b) : Own w' e m f A N C xs := by
  refine ⟨h.len, h.own.kept hg ?_⟩
  cases hr : row with
  | none => cases hv : (Value.slice A N C).ownBlock with
    | none => exact .inl rfl
    | some b => exact .inr (by simp)
  | some b =>
    refine .inr fun he => ?_
    exact hne b hr (ownBlock_row.1 he)
theorem Own.grow {P : Program} {o : Oper} {a : Act} {w : World} {K : Act → World → Prop} {Q : Exit → Act → World → Prop} {e : TypeId} {m : Nat} {α : Type} {f : α → List Value} {A : Option Addr} {N C : Nat} {xs : List α}
    (s x : Operand) (t : TypeId) (ho : o.op = .call { callee := .builtin .append, args := #[s, x], argTypes := #[t, t] }) (ht : P.underlying t = some (.slice e))
    {z : Value} {bytes : Nat} (hinfo : (P.info? e).map (fun i => (i.zero, i.size, i.bytes)) = some (some z, m, bytes)) (hzs : z.cells.size = m)
    (hs : a.eval s = .slice A N C) (h : Own w e m f A N C xs) (hf : ∀ x, (f x).length = m) (ys : List α) (h0 : 0 < ys.length) (ad : Addr) (cx : Nat) (hx : a.eval x = .slice (some ad) ys.length cx)
    (hc : ∀ j u, (ys.flatMap f)[j]? = some u → w.cell? (ad.add j) = some u)
    (h1 : ∀ y ∈ ys, ∀ u ∈ f y, u.oneCell' = true) (h63 : N + ys.length ≤ maxLen) (hb : (N + ys.length) * bytes ≤ 140737488355328)
    (hK : ∀ g C' w', Own w' e m f (some ⟨g, 0, none⟩) (N + ys.length) C' (xs ++ ys) → Own w' e m f A N C xs → w.grownBy w' (Value.slice A N C).ownBlock → ((A = some ⟨g, 0, none⟩ ∧ C' = C) ∨ (g = w.heap.size ∧ w.grownBy w' none)) → K (a.put o.dst (.slice (some ⟨g, 0, none⟩) (N + ys.length) C')) w') :
    o.wp P a w K Q := by
  obtain ⟨i, hi, hz, hsz, hby⟩ := info_parts hinfo
  subst hsz hby
  have hl : (ys.flatMap f).length = ys.length * i.size := flat_length f _ hf ys
  have hlx : (xs.flatMap f).length = N * i.size := by rw [flat_length f _ hf, h.len]
  have h1' : ∀ u ∈ ys.flatMap f, u.oneCell' = true := fun u hu => by
    obtain ⟨y', hy', hu'⟩ := List.mem_flatMap.1 hu
    exact h1 y' hy' u hu'
  have hlen : (xs.flatMap f ++ ys.flatMap f).length = (N + ys.length) * i.size := by rw [List.length_append, hlx, hl, Nat.add_mul]
  have hfl : (xs ++ ys).flatMap f = xs.flatMap f ++ ys.flatMap f := List.flatMap_append
  have hnn : N + ys.length = (xs ++ ys).length := by rw [List.length_append, h.len]
  have mk : ∀ g C' w', (Builtin.append_ #[t, t] o.type #[.slice A N C, .slice (some ad) ys.length cx]).run P w = .ok (.slice (some ⟨g, 0, none⟩) (N + ys.length) C') w' →
      w'.ownsRow 0 e i.size (.slice (some ⟨g, 0, none⟩) (N + ys.length) C') (N + ys.length) (xs.flatMap f ++ ys.flatMap f) → Own w' e i.size f A N C xs → w.grownBy w' (Value.slice A N C).ownBlock → ((A = some ⟨g, 0, none⟩ ∧ C' = C) ∨ (g = w.heap.size ∧ w.grownBy w' none)) → o.wp P a w K Q := by
    intro g C' w' hr ho1 ho2 hg hat
    unfold Oper.wp execOp
    simp only [ho, resolve, invoke, builtin, Sem.run_bind, Sem.run_pure, Result.andThen_ok, List.map_toArray, List.map_cons, List.map_nil, hs, hx, hr]
    exact hK g C' w' ⟨hnn, by rw [hfl]; exact ho1⟩ ho2 hg hat
  have grown : ∀ (old : Nat), old < N + ys.length →
      (w.drew.alloc (.cells ((xs.flatMap f).toArray ++ (ys.flatMap f).toArray ++ Builtin.zeroCells z.cells (grownCap w (N + ys.length) old e - (N + ys.length))) e)).ownsRow 0 e i.size
        (.slice (some ⟨w.heap.size, 0, none⟩) (N + ys.length) (grownCap w (N + ys.length) old e)) (N + ys.length) (xs.flatMap f ++ ys.flatMap f) := by
    intro old ho
    have hge := grownCap_ge w (N + ys.length) old e
    have hcm : grownCap w (N + ys.length) old e ≤ maxLen := grownCap_le_maxLen w (N + ys.length) old e h63
    refine ⟨hlen, .inr ⟨w.heap.size, _, _, rfl, Nat.zero_le _, heap_alloc_new w.drew _, hge, hcm, ?_, ?_⟩⟩
    · simp only [Array.size_append, List.size_toArray, size_zeroCells, hzs, hlx, hl, ← Nat.add_mul]
      congr 1
      omega
    · simp only [Array.toList_append, List.append_assoc]
      rw [← List.append_assoc, ← hlen]
      exact List.take_left
  have hgn : ∀ (ob : Obj) (row : Option Nat), w.grownBy (w.drew.alloc ob) row := fun ob row => ⟨rfl, rfl, rfl, by simp, fun k hk _ => Below.heap_alloc w.drew _ k hk⟩
  have hmx : maxLen = 9223372036854775807 := rfl
  rcases h.own.2 with ⟨hv, hn0⟩ | ⟨g, cap, cur, hv, hbg, hg, hnc, hcm, hcs, htake⟩
  · injection hv with hA hN hC
    subst hA hN hC
    have hxs : xs = [] := List.eq_nil_of_length_eq_zero h.len.symm
    subst hxs
    have hr := run_append_nil (P := P) w t o.type e i z ht hi hz ad ys.length cx _ hl hc h0 (by omega) (by rw [Nat.zero_add] at hb; omega)
    have hgr := grown 0 (by omega)
    simp only [Nat.zero_add, List.nil_append, Array.empty_append, List.flatMap_nil] at hgr hr
    simp only [Nat.zero_add, List.nil_append, List.flatMap_nil] at mk
    exact mk w.heap.size _ _ hr hgr (h.keptBy (hgn _ none) (fun b hb => by cases hb)) (hgn _ _) (.inr ⟨rfl, hgn _ none⟩)
  · injection hv with hA _ hC
    subst hA hC
    by_cases hroom : N + ys.length ≤ C
    · have hfit : N * i.size + (ys.flatMap f).length ≤ cur.size := by rw [hl, hcs, ← Nat.add_mul]; exact Nat.mul_le_mul_right _ hroom
      have hr := run_append_room (P := P) w t o.type e i ht hi g N C cur hg ad ys.length cx _ hl hc h1' hroom hfit
      have hgb : w.grownBy (w.setRow g (cur.toList.take (N * i.size) ++ ys.flatMap f ++ cur.toList.drop (N * i.size + (ys.flatMap f).length)).toArray) (Value.slice (some ⟨g, 0, none⟩) N C).ownBlock :=
        ⟨rfl, rfl, rfl, by simp, fun k _ hk => setRow_other w g k _ (fun e => hk (by simp [Value.ownBlock, e]))⟩
      have hown : (w.setRow g (cur.toList.take (N * i.size) ++ ys.flatMap f ++ cur.toList.drop (N * i.size + (ys.flatMap f).length)).toArray).ownsRow 0 e i.size (.slice (some ⟨g, 0, none⟩) (N + ys.length) C) (N + ys.length) (xs.flatMap f ++ ys.flatMap f) := by
        refine ⟨hlen, .inr ⟨g, C, _, rfl, hbg, setRow_heap w g cur _ e _ hg, hroom, hcm, ?_, ?_⟩⟩
        · simp only [List.size_toArray, List.length_append, List.length_take, List.length_drop, Array.length_toList]
          omega
        · rw [htake, ← hlen]
          exact List.take_left
      refine mk g C _ hr hown ?_ hgb (.inl ⟨rfl, rfl⟩)
      have hw : Own _ e i.size f (some ⟨g, 0, none⟩) (N + ys.length) C (xs ++ ys) := ⟨hnn, by rw [hfl]; exact hown⟩
      have := hw.front hf
      rwa [← h.len] at this
    · have holds : ∀ j u, (xs.flatMap f)[j]? = some u → w.cell? ((⟨g, 0, none⟩ : Addr).add j) = some u := h.own.cells (g := g) rfl
      have hr := run_append_grow (P := P) w t o.type e i z ht hi hz ⟨g, 0, none⟩ N C _ hlx holds ad ys.length cx _ hl hc (by omega) (by omega) (growslice_fits (by omega) hb)
      exact mk w.heap.size _ _ hr (grown C (by omega)) (h.keptBy (hgn _ none) (fun b hb => by cases hb)) (hgn _ _) (.inr ⟨rfl, hgn _ none⟩)
end Go.Tk


/- The cells of a part of a row, and a row's capacity: general. -/
namespace Go.Tk
open Go.RowKit

theorem Own.cap {w : World} {e : TypeId} {m : Nat} {α : Type} {f : α → List Value} {A : Option Addr} {N C : Nat} {xs : List α} (h : Own w e m f A N C xs) : N ≤ C := by
  rcases h.own.2 with ⟨h1, h2⟩ | ⟨g, cap, cur, h1, _, _, hnc, _⟩
  · cases h1; omega
  · cases h1; exact hnc
theorem part_cells {w : World} {sb m : Nat} {α : Type} {f : α → List Value} (hf : ∀ x, (f x).length = m) (hm : 0 < m) {xs : List α} (hc : ∀ (i : Nat) (x : α), xs[i]? = some x → ∀ j, j < m → w.cell? ⟨sb, i * m + j, none⟩ = (f x)[j]?) (o : Nat) (ys : List α) (hy : ∀ i x, ys[i]? = some x → xs[o + i]? = some x) :
    ∀ j u, (ys.flatMap f)[j]? = some u → w.cell? ((⟨sb, o * m, none⟩ : Addr).add j) = some u := by
  intro j u hj
  have hj' := hj
  rw [show j = j / m * m + j % m from by rw [Nat.mul_comm]; exact (Nat.div_add_mod j m).symm, flat_get f m hf _ _ _ (Nat.mod_lt _ hm)] at hj'
  cases hx : ys[j / m]? with
  | none => rw [hx] at hj'; cases hj'
  | some x =>
    rw [hx] at hj'
    have h2 := hc (o + j / m) x (hy _ _ hx) (j % m) (Nat.mod_lt _ hm)
    have hadd : (⟨sb, o * m, none⟩ : Addr).add j = ⟨sb, (o + j / m) * m + j % m, none⟩ := by
      have : (o + j / m) * m + j % m = o * m + j := by
        have := Nat.div_add_mod j m
        rw [Nat.add_mul, Nat.mul_comm (j / m)]; omega
      rw [this]
      unfold Addr.add; split <;> simp_all
    rw [hadd, h2]
    exact hj'
end Go.Tk


/- A region that does not draw its order, walked by hand: its reading operations first, then one operation at a time. General. -/
namespace Go.Tk
open Go.RowKit

section
variable {P : Program} {ops : Array Oper} {C : World → Prop} {Q : Exit → Act → World → Prop}
theorem wpList_head : ∀ (l rest : List Oper) (a : Act) (w : World), C w → wpQuiet P ops C (fun a' => ∀ w', C w' → wpList P ops Q rest a' w') l a → wpList P ops Q (l ++ rest) a w
  | [], _, _, w, hC, h => h w hC
  | o :: l, rest, a, w, hC, h => by
    simp only [wpQuiet] at h
    simp only [List.cons_append, wpList]
    split
    · rename_i hw
      rw [if_pos hw] at h
      obtain ⟨v, hv, hK⟩ := h
      left
      have h3 := hv w hC
      unfold Oper.quietAt at h3
      unfold Oper.wp
      generalize (execOp a.eval o).run P w = res at h3 ⊢
      cases res with
      | ok nx w' =>
        cases nx <;> simp only [Oper.quietUpon] at h3 <;> simp only [Oper.upon]
        case value u =>
          obtain ⟨rfl, rfl⟩ := h3
          exact wpList_head l rest _ _ hC hK
        case skip =>
          obtain ⟨rfl, rfl⟩ := h3
          exact wpList_head l rest _ _ hC hK
        case enter f args =>
          obtain ⟨rfl, h4⟩ := h3
          refine h4.mono fun e w'' he => ?_
          obtain ⟨rfl, hC'⟩ := he
          exact wpList_head l rest _ _ hC' hK
      | halt x w' => simp only [Oper.quietUpon] at h3
    · rename_i hw
      rw [if_neg hw] at h
      exact wpList_head l rest _ _ hC h
end
theorem more_self (w : World) : ∃ p, w = more w p := more_of_same (Frm.refl _ _)
/-- the first n operations of a region that does not draw -/
theorem wp_head {P : Program} {Q : Exit → Act → World → Prop} {id : Nat} {l : List Oper} {a : Act} {w : World} (n : Nat)
    (h : wpQuiet P l.toArray (fun w' => ∃ p, w' = more w p) (fun a' => ∀ w', (∃ p, w' = more w p) → wpList P l.toArray Q (l.drop n) a' w') (l.take n) a) : (Code.region id l.toArray false).wp P Q a w := by
  have := wpList_head (C := fun w' => ∃ p, w' = more w p) (l.take n) (l.drop n) a w (more_self w) h
  rw [List.take_append_drop] at this
  exact wp_region_lit this
/-- reading operations within a list -/
theorem list_head {P : Program} {ops : Array Oper} {Q : Exit → Act → World → Prop} {l : List Oper} {a : Act} {w : World} (n : Nat)
    (h : wpQuiet P ops (fun w' => ∃ p, w' = more w p) (fun a' => ∀ w', (∃ p, w' = more w p) → wpList P ops Q (l.drop n) a' w') (l.take n) a) : wpList P ops Q l a w := by
  have := wpList_head (C := fun w' => ∃ p, w' = more w p) (l.take n) (l.drop n) a w (more_self w) h
  rwa [List.take_append_drop] at this
/-- reading operations alone: the world stays -/
theorem wpList_read {P : Program} {ops : Array Oper} {Q : Exit → Act → World → Prop} {l : List Oper} {a : Act} {w : World} (n : Nat)
    (h : wpQuiet P ops (fun w' => w' = w) (fun a' => wpList P ops Q (l.drop n) a' w) (l.take n) a) : wpList P ops Q l a w := by
  have := wpList_head (C := fun w' => w' = w) (Q := Q) (P := P) (ops := ops) (l.take n) (l.drop n) a w rfl (by
    have mono : ∀ (l : List Oper) (a : Act) (K K' : Act → Prop), (∀ a, K a → K' a) → wpQuiet P ops (fun w' => w' = w) K l a → wpQuiet P ops (fun w' => w' = w) K' l a := by
      intro l
      induction l with
      | nil => intro a K K' hk h; exact hk _ h
      | cons o l ih =>
        intro a K K' hk h
        simp only [wpQuiet] at h ⊢
        split
        · rename_i hw
          rw [if_pos hw] at h
          exact Oper.quiet_mono (fun a h => ih a K K' hk h) h
        · rename_i hw
          rw [if_neg hw] at h
          exact ih _ K K' hk h
    exact mono _ _ _ _ (fun a h w' hw' => hw' ▸ h) h)
  rwa [List.take_append_drop] at this
theorem wp_read {P : Program} {Q : Exit → Act → World → Prop} {id : Nat} {l : List Oper} {a : Act} {w : World} (n : Nat)
    (h : wpQuiet P l.toArray (fun w' => w' = w) (fun a' => wpList P l.toArray Q (l.drop n) a' w) (l.take n) a) : (Code.region id l.toArray false).wp P Q a w :=
  wp_region_lit (wpList_read n h)
end Go.Tk


/- Truth tables as lists of words: plain laws, no program in sight. -/
namespace Go.Tk

/-- the number of these m bits -/
def bsum (F : Nat → Bool) : Nat → Nat
  | 0 => 0
  | m + 1 => bsum F m + (if F m then 2 ^ m else 0)
theorem bsum_lt (F : Nat → Bool) : ∀ m, bsum F m < 2 ^ m
  | 0 => by simp [bsum]
  | m + 1 => by
    have := bsum_lt F m
    rw [bsum, Nat.pow_succ]
    split <;> omega
theorem bsum_bit (F : Nat → Bool) : ∀ m j, (bsum F m).testBit j = (decide (j < m) && F j)
  | 0, j => by simp [bsum]
  | m + 1, j => by
    have ih := bsum_bit F m j
    have hl := bsum_lt F m
    have he : (if F m then 2 ^ m else 0) = 2 ^ m * (F m).toNat := by cases F m <;> simp
    rw [bsum, he, Nat.add_comm, Nat.testBit_two_pow_mul_add _ hl, ih]
    rcases Nat.lt_trichotomy j m with h | h | h
    · rw [if_pos h]
      simp [h, show j < m + 1 by omega]
    · subst h
      rw [if_neg (Nat.lt_irrefl _)]
      cases hF : F j <;> simp
    · rw [if_neg (by omega)]
      have h1 : ¬ j < m + 1 := by omega
      have h2 : (F m).toNat.testBit (j - m) = false := by
        obtain ⟨d, hd⟩ : ∃ d, j - m = d + 1 := ⟨j - m - 1, by omega⟩
        rw [hd]
        cases F m <;> simp [Nat.testBit_succ]
      simp [h1, h2]
theorem bsum_congr {F G : Nat → Bool} : ∀ {m}, (∀ j, j < m → F j = G j) → bsum F m = bsum G m
  | 0, _ => rfl
  | m + 1, h => by rw [bsum, bsum, bsum_congr (fun j hj => h j (by omega)), h m (by omega)]
theorem bsum_of {x m : Nat} (h : x < 2 ^ m) : bsum (fun j => x.testBit j) m = x := by
  apply Nat.eq_of_testBit_eq
  intro j
  rw [bsum_bit]
  by_cases hj : j < m
  · simp [hj]
  · have : x.testBit j = false := Nat.testBit_lt_two_pow (Nat.lt_of_lt_of_le h (Nat.pow_le_pow_right (by omega) (by omega)))
    simp [this]

/-- how many words -/
def nw (n : Nat) : Nat := if n ≤ 6 then 1 else 2 ^ (n - 6)
theorem nw_pos (n : Nat) : 0 < nw n := by
  unfold nw
  split
  · omega
  · exact Nat.pow_pos (by omega)
theorem nw_le {n : Nat} (h : n ≤ 16) : nw n ≤ 1024 := by
  have : ∀ n, n ≤ 16 → nw n ≤ 1024 := by decide
  exact this n h
theorem nw_shift {n : Nat} (h : n ≤ 16) : max 1 (2 ^ n / 64) = nw n := by
  have : ∀ n, n ≤ 16 → max 1 (2 ^ n / 64) = nw n := by decide
  exact this n h
theorem pow_le16 {n : Nat} (h : n ≤ 16) : 2 ^ n ≤ 65536 := by
  have : ∀ n, n ≤ 16 → 2 ^ n ≤ 65536 := by decide
  exact this n h
theorem nw_mul {n : Nat} (h : 6 ≤ n) : nw n * 64 = 2 ^ n := by
  unfold nw
  by_cases h6 : n = 6
  · subst h6; decide
  · rw [if_neg (by omega), show (64 : Nat) = 2 ^ 6 by decide, ← Nat.pow_add, show n - 6 + 6 = n by omega]
theorem nw_small {n : Nat} (h : n < 6) : nw n = 1 := by unfold nw; rw [if_pos (by omega)]
/-- the bits of a table's word that are of use -/
def fullN (n : Nat) : Nat := if 6 ≤ n then 18446744073709551615 else 2 ^ 2 ^ n - 1
theorem fullN_lt (n : Nat) : fullN n < 18446744073709551616 := by
  unfold fullN
  split
  · omega
  · rename_i h
    have : ∀ n, n < 6 → 2 ^ 2 ^ n - 1 < 18446744073709551616 := by decide
    exact this n (by omega)
theorem fullN_bit {n j : Nat} (hj : j < 64) : (fullN n).testBit j = decide (6 ≤ n ∨ j < 2 ^ n) := by
  unfold fullN
  split
  · rename_i h
    rw [show (18446744073709551615 : Nat) = 2 ^ 64 - 1 by decide, Nat.testBit_two_pow_sub_one]
    simp [hj, h]
  · rename_i h
    rw [Nat.testBit_two_pow_sub_one]
    simp [h]
/-- the k-th word of a function -/
def word (n : Nat) (F : Nat → Bool) (k : Nat) : Nat := bsum (fun j => decide (64 * k + j < 2 ^ n) && F (64 * k + j)) 64
theorem word_lt (n : Nat) (F : Nat → Bool) (k : Nat) : word n F k < 18446744073709551616 := bsum_lt _ 64
theorem word_bit (n : Nat) (F : Nat → Bool) (k : Nat) {j : Nat} (hj : j < 64) : (word n F k).testBit j = (decide (64 * k + j < 2 ^ n) && F (64 * k + j)) := by
  unfold word
  rw [bsum_bit]
  simp [hj]
def tab (n : Nat) (F : Nat → Bool) : List Nat := (List.range (nw n)).map (word n F)
theorem tab_len (n : Nat) (F : Nat → Bool) : (tab n F).length = nw n := by simp [tab]
theorem tab_get {n : Nat} {F : Nat → Bool} {k : Nat} (h : k < nw n) : (tab n F)[k]? = some (word n F k) := by simp [tab, h]
theorem tab_lt {n : Nat} {F : Nat → Bool} : ∀ x ∈ tab n F, x < 18446744073709551616 := by
  intro x hx
  obtain ⟨k, _, rfl⟩ := List.mem_map.1 hx
  exact word_lt n F k
theorem word_congr {n : Nat} {F G : Nat → Bool} (h : ∀ i, i < 2 ^ n → F i = G i) (k : Nat) : word n F k = word n G k := by
  refine bsum_congr fun j _ => ?_
  by_cases hj : 64 * k + j < 2 ^ n
  · rw [h _ hj]
  · simp [hj]
theorem word_congr' {n : Nat} {F G : Nat → Bool} {k : Nat} (h : ∀ j, j < 64 → 64 * k + j < 2 ^ n → F (64 * k + j) = G (64 * k + j)) : word n F k = word n G k := by
  unfold word
  refine bsum_congr fun j hj => ?_
  by_cases hjn : 64 * k + j < 2 ^ n
  · rw [h j hj hjn]
  · simp [hjn]
theorem tab_congr {n : Nat} {F G : Nat → Bool} (h : ∀ i, i < 2 ^ n → F i = G i) : tab n F = tab n G := by
  unfold tab
  apply List.map_congr_left
  intro k _
  exact word_congr h k
/-- the value at i -/
def vb (ws : List Nat) (i : Nat) : Bool := (ws.getD (i / 64) 0).testBit (i % 64)
theorem vb_tab {n : Nat} {F : Nat → Bool} {i : Nat} (h : i < 2 ^ n) : vb (tab n F) i = F i := by
  unfold vb
  have hk : i / 64 < nw n := by
    by_cases h6 : 6 ≤ n
    · have := nw_mul h6; omega
    · rw [nw_small (by omega)]
      have := Nat.pow_le_pow_right (show 0 < 2 by omega) (show n ≤ 5 by omega)
      omega
  rw [List.getD_eq_getElem?_getD, tab_get hk, Option.getD_some, word_bit _ _ _ (Nat.mod_lt _ (by omega)), Nat.div_add_mod]
  simp [h]
/-- words of 64 bits, so many of them, no bit too many -/
structure FormN (n : Nat) (ws : List Nat) : Prop where
  n16 : n ≤ 16
  len : ws.length = nw n
  top : n < 6 → ws.getD 0 0 < 2 ^ 2 ^ n
theorem tab_vb {n : Nat} {ws : List Nat} (h : FormN n ws) (hb : ∀ x ∈ ws, x < 18446744073709551616) : tab n (vb ws) = ws := by
  apply List.ext_getElem?
  intro k
  rcases Nat.lt_or_ge k (nw n) with hk | hk
  · have hkl : k < ws.length := by rw [h.len]; exact hk
    rw [tab_get hk, List.getElem?_eq_getElem hkl]
    congr 1
    apply Nat.eq_of_testBit_eq
    intro j
    by_cases hj : j < 64
    · rw [word_bit _ _ _ hj]
      unfold vb
      rw [show (64 * k + j) / 64 = k by omega, show (64 * k + j) % 64 = j by omega, List.getD_eq_getElem?_getD, List.getElem?_eq_getElem hkl, Option.getD_some]
      by_cases h6 : 6 ≤ n
      · have := nw_mul h6
        simp [show 64 * k + j < 2 ^ n by omega]
      · have hk0 : k = 0 := by rw [nw_small (by omega)] at hk; omega
        subst hk0
        by_cases hjn : j < 2 ^ n
        · simp [hjn]
        · have ht := h.top (by omega)
          rw [List.getD_eq_getElem?_getD, List.getElem?_eq_getElem hkl, Option.getD_some] at ht
          have : (ws[0]).testBit j = false := Nat.testBit_lt_two_pow (Nat.lt_of_lt_of_le ht (Nat.pow_le_pow_right (by omega) (by omega)))
          simp [this]
    · have h1 : (word n (vb ws) k).testBit j = false := Nat.testBit_lt_two_pow (Nat.lt_of_lt_of_le (word_lt _ _ _) (Nat.pow_le_pow_right (show 0 < 2 by omega) (show 64 ≤ j by omega)))
      have h2 : (ws[k]).testBit j = false := Nat.testBit_lt_two_pow (Nat.lt_of_lt_of_le (hb _ (List.getElem_mem hkl)) (Nat.pow_le_pow_right (show 0 < 2 by omega) (show 64 ≤ j by omega)))
      rw [h1, h2]
  · rw [List.getElem?_eq_none (by rw [tab_len]; exact hk), List.getElem?_eq_none (by rw [h.len]; exact hk)]
theorem tab_form {n : Nat} {F : Nat → Bool} (h : n ≤ 16) : FormN n (tab n F) := by
  refine ⟨h, tab_len n F, fun h6 => ?_⟩
  rw [List.getD_eq_getElem?_getD, tab_get (nw_pos n), Option.getD_some]
  refine Nat.lt_pow_two_of_testBit _ fun j hj => ?_
  by_cases hj64 : j < 64
  · rw [word_bit _ _ _ hj64]
    simp <;> omega
  · exact Nat.testBit_lt_two_pow (Nat.lt_of_lt_of_le (word_lt _ _ _) (Nat.pow_le_pow_right (show 0 < 2 by omega) (show 64 ≤ j by omega)))
/-- a word laid by the program -/
theorem word_laid {n : Nat} {F : Nat → Bool} {k g : Nat} (hk : k < nw n) (hg : ∀ j, j < 64 → 64 * k + j < 2 ^ n → g.testBit j = F (64 * k + j)) : g &&& fullN n = word n F k := by
  apply Nat.eq_of_testBit_eq
  intro j
  rw [Nat.testBit_and]
  by_cases hj : j < 64
  · rw [word_bit _ _ _ hj, fullN_bit hj]
    by_cases h6 : 6 ≤ n
    · have := nw_mul h6
      have h1 : 64 * k + j < 2 ^ n := by omega
      rw [hg j hj h1]
      simp [h1, h6]
    · have hk0 : k = 0 := by rw [nw_small (by omega)] at hk; omega
      subst hk0
      by_cases h1 : j < 2 ^ n
      · rw [hg j hj (by omega)]
        simp [h1]
      · simp [h1, h6]
  · have h1 : (word n F k).testBit j = false := Nat.testBit_lt_two_pow (Nat.lt_of_lt_of_le (word_lt _ _ _) (Nat.pow_le_pow_right (show 0 < 2 by omega) (show 64 ≤ j by omega)))
    have h2 : (fullN n).testBit j = false := Nat.testBit_lt_two_pow (Nat.lt_of_lt_of_le (fullN_lt n) (Nat.pow_le_pow_right (show 0 < 2 by omega) (show 64 ≤ j by omega)))
    rw [h1, h2, Bool.and_false]
/-- what the reference has laid of the values below m -/
def part (n : Nat) (F : Nat → Bool) (m : Nat) : List Nat := (List.range (nw n)).map fun k => word n (fun i => decide (i < m) && F i) k
theorem part_len (n : Nat) (F : Nat → Bool) (m : Nat) : (part n F m).length = nw n := by simp [part]
theorem part_full (n : Nat) (F : Nat → Bool) : part n F (2 ^ n) = tab n F := by
  unfold part tab
  apply List.map_congr_left
  intro k _
  exact word_congr (fun i hi => by simp [hi]) k
theorem part_zero (n : Nat) (F : Nat → Bool) : part n F 0 = List.replicate (nw n) 0 := by
  apply List.ext_getElem?
  intro k
  rcases Nat.lt_or_ge k (nw n) with hk | hk
  · rw [part]
    simp only [List.getElem?_map, List.getElem?_range hk, Option.map_some, List.getElem?_replicate, if_pos hk]
    congr 1
    apply Nat.eq_of_testBit_eq
    intro j
    unfold word
    rw [bsum_bit]
    simp
  · rw [List.getElem?_eq_none (by rw [part_len]; exact hk), List.getElem?_eq_none (by simpa using hk)]
theorem part_get {n : Nat} {F : Nat → Bool} {m k : Nat} (h : k < nw n) : (part n F m)[k]? = some (word n (fun i => decide (i < m) && F i) k) := by simp [part, h]
theorem part_same {n : Nat} {F : Nat → Bool} {m : Nat} (h : F m = false) : part n F (m + 1) = part n F m := by
  unfold part
  apply List.map_congr_left
  intro k _
  refine word_congr (fun i _ => ?_) k
  by_cases hi : i = m
  · subst hi; simp [h]
  · rw [show decide (i < m + 1) = decide (i < m) by rw [decide_eq_decide]; omega]
theorem word_put {n : Nat} {F : Nat → Bool} {m : Nat} (hm : m < 2 ^ n) (h : F m = true) : word n (fun i => decide (i < m) && F i) (m / 64) + 2 ^ (m % 64) = word n (fun i => decide (i < m + 1) && F i) (m / 64) := by
  have hA : ∀ j, j < 64 → (word n (fun i => decide (i < m) && F i) (m / 64)).testBit j = (decide (64 * (m / 64) + j < 2 ^ n) && (decide (64 * (m / 64) + j < m) && F (64 * (m / 64) + j))) := fun j hj => word_bit n _ _ hj
  have hB : ∀ j, j < 64 → (word n (fun i => decide (i < m + 1) && F i) (m / 64)).testBit j = (decide (64 * (m / 64) + j < 2 ^ n) && (decide (64 * (m / 64) + j < m + 1) && F (64 * (m / 64) + j))) := fun j hj => word_bit n _ _ hj
  have hAl : word n (fun i => decide (i < m) && F i) (m / 64) < 2 ^ 64 := bsum_lt _ 64
  have hBl : word n (fun i => decide (i < m + 1) && F i) (m / 64) < 2 ^ 64 := bsum_lt _ 64
  have hdm := Nat.div_add_mod m 64
  have hmm := Nat.mod_lt m (show 0 < 64 by omega)
  generalize word n (fun i => decide (i < m) && F i) (m / 64) = a at hA hAl ⊢
  generalize word n (fun i => decide (i < m + 1) && F i) (m / 64) = b at hB hBl ⊢
  generalize m % 64 = r at hdm hmm ⊢
  generalize m / 64 = q at hA hB hdm
  have hlt : a < 2 ^ r := by
    refine Nat.lt_pow_two_of_testBit _ fun j hj => ?_
    by_cases hj64 : j < 64
    · rw [hA j hj64]
      have : ¬ 64 * q + j < m := by omega
      simp [this]
    · exact Nat.testBit_lt_two_pow (Nat.lt_of_lt_of_le hAl (Nat.pow_le_pow_right (show 0 < 2 by omega) (show 64 ≤ j by omega)))
  apply Nat.eq_of_testBit_eq
  intro j
  rw [show a + 2 ^ r = 2 ^ r * 1 + a by omega, Nat.testBit_two_pow_mul_add _ hlt]
  by_cases hj64 : j < 64
  · rw [hA j hj64, hB j hj64]
    rcases Nat.lt_trichotomy j r with h1 | h1 | h1
    · rw [if_pos h1]
      rw [show decide (64 * q + j < m) = true by simp <;> omega, show decide (64 * q + j < m + 1) = true by simp <;> omega]
    · subst h1
      rw [if_neg (by omega), Nat.sub_self, hdm]
      simp [h, hm]
    · rw [if_neg (by omega)]
      obtain ⟨d, hd⟩ : ∃ d, j - r = d + 1 := ⟨j - r - 1, by omega⟩
      rw [hd, show (1 : Nat).testBit (d + 1) = false by simp [Nat.testBit_succ]]
      have : ¬ 64 * q + j < m + 1 := by omega
      simp [this]
  · have h1 : b.testBit j = false := Nat.testBit_lt_two_pow (Nat.lt_of_lt_of_le hBl (Nat.pow_le_pow_right (show 0 < 2 by omega) (show 64 ≤ j by omega)))
    obtain ⟨d, hd⟩ : ∃ d, j - r = d + 1 := ⟨j - r - 1, by omega⟩
    rw [h1, if_neg (by omega), hd]
    simp [Nat.testBit_succ]
theorem part_put {n : Nat} {F : Nat → Bool} {m : Nat} (hm : m < 2 ^ n) (h : F m = true) : (part n F m).set (m / 64) (word n (fun i => decide (i < m) && F i) (m / 64) + 2 ^ (m % 64)) = part n F (m + 1) := by
  apply List.ext_getElem?
  intro k
  rcases Nat.lt_or_ge k (nw n) with hk | hk
  · rw [List.getElem?_set, part_len, part_get hk, part_get hk]
    split
    · rename_i he
      subst he
      rw [word_put hm h]
      simp [hk]
    · rename_i he
      refine congrArg some (word_congr' fun j hj _ => ?_)
      have : ¬ 64 * k + j = m := by omega
      rw [show decide (64 * k + j < m + 1) = decide (64 * k + j < m) by rw [decide_eq_decide]; omega]
  · rw [List.getElem?_eq_none (by simp [part_len, hk]), List.getElem?_eq_none (by rw [part_len]; exact hk)]
theorem div_lt_nw {n m : Nat} (hm : m < 2 ^ n) : m / 64 < nw n := by
  by_cases h6 : 6 ≤ n
  · have := nw_mul h6; omega
  · rw [nw_small (by omega)]
    have := Nat.pow_le_pow_right (show 0 < 2 by omega) (show n ≤ 5 by omega)
    omega
end Go.Tk


/- Masks: how many sets there are (plain). -/
namespace Go.Tk

/-- how many sets of k of n things -/
def chs : Nat → Nat → Nat
  | _, 0 => 1
  | 0, _ + 1 => 0
  | n + 1, k + 1 => chs n k + chs n (k + 1)
theorem chs_zero (n : Nat) : chs n 0 = 1 := by cases n <;> rfl
theorem chs_none : ∀ {n k : Nat}, n < k → chs n k = 0
  | 0, 0, h => by omega
  | 0, k + 1, _ => rfl
  | n + 1, 0, h => by omega
  | n + 1, k + 1, h => by
    show chs n k + chs n (k + 1) = 0
    rw [chs_none (show n < k by omega), chs_none (show n < k + 1 by omega)]
theorem chs_self : ∀ n, chs n n = 1
  | 0 => rfl
  | n + 1 => by
    show chs n n + chs n (n + 1) = 1
    rw [chs_self n, chs_none (by omega)]
theorem chs_succ (n k : Nat) : chs (n + 1) (k + 1) = chs n k + chs n (k + 1) := rfl
/-- one step of the product -/
theorem chs_step : ∀ (n k : Nat), chs n (k + 1) * (k + 1) = chs n k * (n - k)
  | 0, k => by
    cases k with
    | zero => rfl
    | succ k => rw [show chs 0 (k + 1 + 1) = 0 from rfl, show chs 0 (k + 1) = 0 from rfl]; simp
  | n + 1, k => by
    cases k with
    | zero =>
      have h := chs_step n 0
      rw [chs_zero] at h ⊢
      rw [chs_succ, chs_zero]
      simp only [Nat.zero_add, Nat.mul_one, Nat.sub_zero, Nat.one_mul] at h ⊢
      omega
    | succ k =>
      by_cases hk : n < k + 1
      · rw [chs_none (show n + 1 < k + 1 + 1 by omega)]
        have : n + 1 - (k + 1) = 0 := by omega
        rw [this]
        simp
      · have h1 := chs_step n (k + 1)
        have h2 := chs_step n k
        rw [chs_succ n (k + 1), chs_succ n k, Nat.add_mul, Nat.add_mul]
        obtain ⟨d, hd⟩ : ∃ d, n = k + 1 + d := ⟨n - (k + 1), by omega⟩
        have e1 : n - (k + 1) = d := by omega
        have e2 : n - k = d + 1 := by omega
        have e3 : n + 1 - (k + 1) = d + 1 := by omega
        rw [e1] at h1
        rw [e2] at h2
        rw [e3, h1]
        have h3 : chs n (k + 1) * (k + 1 + 1) = chs n (k + 1) * (k + 1) + chs n (k + 1) := Nat.mul_succ _ _
        rw [h3, h2, Nat.mul_add (chs n (k + 1)) d 1, Nat.mul_one]
        omega
/-- the same from both ends -/
theorem chs_sym : ∀ {n k : Nat}, k ≤ n → chs n (n - k) = chs n k
  | n, 0, _ => by rw [Nat.sub_zero, chs_self, chs_zero]
  | 0, k + 1, h => by omega
  | n + 1, k + 1, h => by
    rw [show n + 1 - (k + 1) = n - k by omega, chs_succ]
    by_cases hk : k + 1 ≤ n
    · obtain ⟨d, hd⟩ : ∃ d, n - k = d + 1 := ⟨n - k - 1, by omega⟩
      have h1 : n - (k + 1) = d := by omega
      rw [hd, chs_succ]
      have s1 := chs_sym (n := n) (k := k + 1) hk
      have s2 := chs_sym (n := n) (k := k) (by omega)
      rw [h1] at s1
      rw [hd] at s2
      rw [s1, s2, Nat.add_comm]
    · obtain rfl : k = n := by omega
      rw [show k - k = 0 by omega, chs_zero, chs_self, chs_none (by omega)]
theorem chs_lt : ∀ (n k : Nat), chs (n + 1) k < 2 ^ (n + 1)
  | 0, 0 => by decide
  | 0, 1 => by decide
  | 0, k + 2 => by rw [chs_none (by omega)]; decide
  | n + 1, 0 => by rw [chs_zero]; exact Nat.one_lt_two_pow (by omega)
  | n + 1, k + 1 => by
    have h1 := chs_lt n k
    have h2 := chs_lt n (k + 1)
    rw [chs_succ (n + 1) k, Nat.pow_succ 2 (n + 1)]
    omega
theorem chs_u64 {n k : Nat} (h : n ≤ 64) : chs n k < 18446744073709551616 := by
  cases n with
  | zero =>
    cases k with
    | zero => decide
    | succ k => show 0 < _; decide
  | succ n => exact Nat.lt_of_lt_of_le (chs_lt n k) (show 2 ^ (n + 1) ≤ 2 ^ 64 from Nat.pow_le_pow_right (by omega) h)
theorem chs_pos : ∀ {n k : Nat}, k ≤ n → 0 < chs n k
  | n, 0, _ => by rw [chs_zero]; omega
  | 0, k + 1, h => by omega
  | n + 1, k + 1, h => by
    rw [chs_succ]
    have := chs_pos (n := n) (k := k) (by omega)
    omega
theorem chs_mono {n k : Nat} : chs n k ≤ chs (n + 1) k := by
  cases k with
  | zero => rw [chs_zero, chs_zero]; omega
  | succ k => rw [chs_succ]; omega
theorem chs_mono2 {n m k : Nat} (h : n ≤ m) : chs n k ≤ chs m k := by
  induction m with
  | zero =>
    obtain rfl : n = 0 := by omega
    exact Nat.le_refl _
  | succ m ih =>
    rcases Nat.lt_or_ge n (m + 1) with h1 | h1
    · exact Nat.le_trans (ih (by omega)) chs_mono
    · obtain rfl : n = m + 1 := by omega
      exact Nat.le_refl _
/-! members -/
def mems (s n : Nat) : List Nat := (List.range n).filter fun i => s.testBit i
theorem mems_succ (s n : Nat) : mems s (n + 1) = mems s n ++ (if s.testBit n then [n] else []) := by
  unfold mems
  rw [List.range_succ, List.filter_append]
  congr 1
  cases h : s.testBit n <;> simp [h]
/-- the rank: the i-th member m counts the sets of i+1 of the numbers below m -/
def rkF : Nat → List Nat → Nat
  | _, [] => 0
  | i, m :: l => chs m (i + 1) + rkF (i + 1) l
theorem rkF_snoc : ∀ (i : Nat) (l : List Nat) (m : Nat), rkF i (l ++ [m]) = rkF i l + chs m (i + l.length + 1)
  | i, [], m => by simp [rkF]
  | i, x :: l, m => by
    rw [List.cons_append, rkF, rkF, rkF_snoc (i + 1) l m, List.length_cons, show i + 1 + l.length + 1 = i + (l.length + 1) + 1 by omega]
    omega
/-- a set of k members below n has a rank below C(n, k) -/
theorem rk_below (s : Nat) : ∀ n, rkF 0 (mems s n) < chs n (mems s n).length
  | 0 => by show 0 < 1; decide
  | n + 1 => by
    rw [mems_succ]
    have ih := rk_below s n
    cases s.testBit n with
    | false =>
      rw [if_neg (by decide), List.append_nil]
      exact Nat.lt_of_lt_of_le ih chs_mono
    | true =>
      rw [if_pos rfl, rkF_snoc, List.length_append, List.length_singleton, Nat.zero_add, chs_succ]
      omega
end Go.Tk


/- Masks: ranks there and back (plain). -/
namespace Go.Tk

/-- the set of k members below n at the place r -/
def unS : Nat → Nat → Nat → Nat
  | 0, _, _ => 0
  | n + 1, k, r => if k = 0 then 0 else if chs n k ≤ r then 2 ^ n + unS n (k - 1) (r - chs n k) else unS n k r
theorem unS_zero (n r : Nat) : unS n 0 r = 0 := by
  cases n with
  | zero => rfl
  | succ n => simp [unS]
theorem unS_lt : ∀ (n k r : Nat), unS n k r < 2 ^ n
  | 0, _, _ => by simp [unS]
  | n + 1, k, r => by
    unfold unS
    have h1 := unS_lt n (k - 1) (r - chs n k)
    have h2 := unS_lt n k r
    have h3 : 2 ^ (n + 1) = 2 ^ n + 2 ^ n := by rw [Nat.pow_succ]; omega
    have h4 : 0 < 2 ^ n := Nat.pow_pos (by omega)
    split
    · omega
    · split <;> omega
theorem mod_top (s n : Nat) : s % 2 ^ (n + 1) = (if s.testBit n then 2 ^ n else 0) + s % 2 ^ n := by
  have h := Nat.testBit_eq_decide_div_mod_eq (x := s) (i := n)
  have hp : 0 < 2 ^ n := Nat.pow_pos (by omega)
  have h2 : 2 ^ (n + 1) = 2 ^ n * 2 := by rw [Nat.pow_succ]
  rw [h, h2, Nat.mod_mul]
  by_cases hb : s / 2 ^ n % 2 = 1
  · rw [hb, decide_eq_true rfl, if_pos rfl]; omega
  · have h0 : s / 2 ^ n % 2 = 0 := by omega
    rw [h0, if_neg (by decide)]; omega
theorem un_rk (s : Nat) : ∀ n, unS n (mems s n).length (rkF 0 (mems s n)) = s % 2 ^ n
  | 0 => by rw [Nat.pow_zero, Nat.mod_one]; rfl
  | n + 1 => by
    have ih := un_rk s n
    have hb := rk_below s n
    rw [mems_succ, mod_top]
    cases s.testBit n with
    | true =>
      rw [if_pos rfl, if_pos rfl, rkF_snoc, List.length_append, List.length_singleton, Nat.zero_add]
      unfold unS
      rw [if_neg (by omega), if_pos (by omega), Nat.add_sub_cancel, Nat.add_sub_cancel, ih]
    | false =>
      rw [if_neg (by decide), if_neg (by decide), List.append_nil, Nat.zero_add]
      unfold unS
      by_cases hl : (mems s n).length = 0
      · rw [if_pos hl]
        rw [hl, unS_zero] at ih
        exact ih
      · rw [if_neg hl, if_neg (by omega)]
        exact ih
theorem mems_low {s n : Nat} : mems (s % 2 ^ n) n = mems s n := by
  unfold mems
  refine List.filter_congr fun i hi => ?_
  rw [Nat.testBit_mod_two_pow, decide_eq_true (List.mem_range.1 hi), Bool.true_and]
theorem rk_un : ∀ (n k r : Nat), r < chs n k → (mems (unS n k r) n).length = k ∧ rkF 0 (mems (unS n k r) n) = r
  | 0, 0, r, h => by
    have : r = 0 := by rw [chs_zero] at h; omega
    subst this
    exact ⟨rfl, rfl⟩
  | 0, k + 1, r, h => by
    rw [show chs 0 (k + 1) = 0 from rfl] at h
    omega
  | n + 1, k, r, h => by
    have hp : 0 < 2 ^ n := Nat.pow_pos (by omega)
    unfold unS
    by_cases hk : k = 0
    · subst hk
      rw [if_pos rfl]
      rw [chs_zero] at h
      have hz : mems 0 (n + 1) = [] := by unfold mems; simp
      rw [hz]
      exact ⟨rfl, by show 0 = r; omega⟩
    · rw [if_neg hk]
      obtain ⟨j, rfl⟩ : ∃ j, k = j + 1 := ⟨k - 1, by omega⟩
      by_cases hc : chs n (j + 1) ≤ r
      · rw [if_pos hc, Nat.add_sub_cancel]
        rw [chs_succ] at h
        obtain ⟨h1, h2⟩ := rk_un n j (r - chs n (j + 1)) (by omega)
        have hu := unS_lt n j (r - chs n (j + 1))
        generalize unS n j (r - chs n (j + 1)) = u at *
        have hb : (2 ^ n + u).testBit n = true := by
          rw [Nat.testBit_eq_decide_div_mod_eq, Nat.add_comm, Nat.add_div_right _ hp, Nat.div_eq_of_lt hu]; rfl
        have hm : mems (2 ^ n + u) n = mems u n := by
          rw [← mems_low, Nat.add_mod_left, mems_low]
        rw [mems_succ, hb, if_pos rfl, hm, rkF_snoc, List.length_append, List.length_singleton, h1, h2, Nat.zero_add]
        exact ⟨rfl, by omega⟩
      · rw [if_neg hc]
        obtain ⟨h1, h2⟩ := rk_un n (j + 1) r (by omega)
        have hu := unS_lt n (j + 1) r
        generalize unS n (j + 1) r = u at *
        have hb : u.testBit n = false := Nat.testBit_lt_two_pow hu
        rw [mems_succ, hb, if_neg (by decide), List.append_nil]
        exact ⟨h1, h2⟩
theorem unS_succ (n k r : Nat) : unS (n + 1) (k + 1) r = if chs n (k + 1) ≤ r then 2 ^ n + unS n k (r - chs n (k + 1)) else unS n (k + 1) r := by
  show (if k + 1 = 0 then 0 else _) = _
  rw [if_neg (by omega), Nat.add_sub_cancel]
theorem un_mono : ∀ (n k : Nat) {r q : Nat}, r < q → q < chs n k → unS n k r < unS n k q
  | 0, 0, r, q, h1, h2 => by rw [chs_zero] at h2; omega
  | 0, k + 1, r, q, h1, h2 => by rw [show chs 0 (k + 1) = 0 from rfl] at h2; omega
  | n + 1, 0, r, q, h1, h2 => by rw [chs_zero] at h2; omega
  | n + 1, k + 1, r, q, h1, h2 => by
    rw [chs_succ] at h2
    rw [unS_succ, unS_succ]
    by_cases hq : chs n (k + 1) ≤ q
    · rw [if_pos hq]
      by_cases hr : chs n (k + 1) ≤ r
      · rw [if_pos hr]
        have := un_mono n k (r := r - chs n (k + 1)) (q := q - chs n (k + 1)) (by omega) (by omega)
        omega
      · rw [if_neg hr]
        have := unS_lt n (k + 1) r
        omega
    · rw [if_neg hq, if_neg (by omega)]
      exact un_mono n (k + 1) h1 (by omega)
/-- sets of as many members stand in the order of their ranks -/
theorem rk_order {s t : Nat} (hs : s < 2 ^ 64) (ht : t < 2 ^ 64) (hl : (mems s 64).length = (mems t 64).length) : (rkF 0 (mems s 64) < rkF 0 (mems t 64) ↔ s < t) ∧ (rkF 0 (mems s 64) = rkF 0 (mems t 64) ↔ s = t) := by
  have h1 := un_rk s 64
  have h2 := un_rk t 64
  have b1 := rk_below s 64
  have b2 := rk_below t 64
  rw [Nat.mod_eq_of_lt hs] at h1
  rw [Nat.mod_eq_of_lt ht] at h2
  rw [← hl] at h2 b2
  have m1 := fun h => un_mono 64 (mems s 64).length (r := rkF 0 (mems s 64)) (q := rkF 0 (mems t 64)) h b2
  have m2 := fun h => un_mono 64 (mems s 64).length (r := rkF 0 (mems t 64)) (q := rkF 0 (mems s 64)) h b1
  rw [h1, h2] at m1 m2
  refine ⟨⟨m1, fun h => ?_⟩, fun h => ?_, fun h => by rw [h]⟩
  · rcases Nat.lt_trichotomy (rkF 0 (mems s 64)) (rkF 0 (mems t 64)) with h3 | h3 | h3
    · exact h3
    · rw [h3, h2] at h1; omega
    · have := m2 h3; omega
  · rw [h, h2] at h1; exact h1.symm
end Go.Tk


/- Masks: the lowest member. -/
namespace Go.Proofs.YtiojbmcjcefdkaaDoor
open Go.RowKit Go.Tk

theorem low_form {s : Nat} (h0 : s ≠ 0) (h : s < 18446744073709551616) : ∃ m, s = 2 ^ (Lib.ctz 64 s + 1) * m + 2 ^ (Lib.ctz 64 s) ∧ Lib.ctz 64 s < 64 := by
  have hc : Lib.ctz 64 s = Lib.ctzFrom 64 s := by unfold Lib.ctz; rw [if_neg h0]
  obtain ⟨m, h1, h2⟩ := Lib.ctzFrom_spec 64 s (by omega) (by omega)
  rw [hc]
  refine ⟨m, ?_, h2⟩
  generalize Lib.ctzFrom 64 s = j at h1 h2 ⊢
  rw [h1, Nat.pow_succ, Nat.mul_add, Nat.mul_one, Nat.mul_assoc]
theorem low_bits {s j m : Nat} (hs : s = 2 ^ (j + 1) * m + 2 ^ j) (i : Nat) : s.testBit i = if i < j + 1 then decide (j = i) else m.testBit (i - (j + 1)) := by
  have hlt : 2 ^ j < 2 ^ (j + 1) := Nat.pow_lt_pow_right (by omega) (by omega)
  rw [hs, Nat.testBit_two_pow_mul_add _ hlt, Nat.testBit_two_pow]
theorem clr_bits {s j m : Nat} (hs : s = 2 ^ (j + 1) * m + 2 ^ j) (i : Nat) : (s &&& (s - 1)).testBit i = (s.testBit i && decide (i ≠ j)) := by
  have hp : 0 < 2 ^ j := Nat.pow_pos (by omega)
  have hlt : 2 ^ j - 1 < 2 ^ (j + 1) := by have : 2 ^ j < 2 ^ (j + 1) := Nat.pow_lt_pow_right (by omega) (by omega); omega
  have e1 : s - 1 = 2 ^ (j + 1) * m + (2 ^ j - 1) := by omega
  rw [Nat.testBit_and, low_bits hs, e1, Nat.testBit_two_pow_mul_add _ hlt, Nat.testBit_two_pow_sub_one]
  by_cases h : i < j + 1
  · rw [if_pos h, if_pos h]
    by_cases hj : j = i
    · subst hj; simp
    · simp [hj]
  · rw [if_neg h, if_neg h]
    have : i ≠ j := by omega
    simp [this]
theorem mems_zero (n : Nat) : mems 0 n = [] := by
  unfold mems
  rw [List.filter_eq_nil_iff]
  intro i _
  simp
theorem mems_clr_gen {s t j : Nat} (hj : s.testBit j = true) (hlo : ∀ i, i < j → s.testBit i = false) (ht : ∀ i, t.testBit i = (s.testBit i && decide (i ≠ j))) : ∀ n, j < n → mems s n = j :: mems t n
  | 0, h => by omega
  | n + 1, h => by
    rw [mems_succ, mems_succ]
    by_cases e : n = j
    · subst e
      have h1 : ∀ r : Nat, (∀ i, i < n → r.testBit i = false) → mems r n = [] := by
        intro r hr
        unfold mems
        rw [List.filter_eq_nil_iff]
        intro i hi
        rw [hr i (List.mem_range.1 hi)]
        simp
      rw [h1 s hlo, h1 t (fun i hi => by rw [ht, hlo i hi]; rfl), hj, ht n]
      simp
    · rw [mems_clr_gen hj hlo ht n (by omega), ht n]
      simp [e]
theorem mems_clr {s : Nat} (h0 : s ≠ 0) (h : s < 18446744073709551616) : mems s 64 = Lib.ctz 64 s :: mems (s &&& (s - 1)) 64 := by
  obtain ⟨m, hs, hj⟩ := low_form h0 h
  generalize Lib.ctz 64 s = j at hs hj ⊢
  refine mems_clr_gen ?_ ?_ (clr_bits hs) 64 hj
  · rw [low_bits hs, if_pos (by omega)]; simp
  · intro i hi
    rw [low_bits hs, if_pos (by omega)]
    simp <;> omega
/-- what is bounded of a run's beginning -/
theorem rkF_pre : ∀ (i : Nat) (a b : List Nat), rkF i a ≤ rkF i (a ++ b)
  | _, [], _ => Nat.zero_le _
  | i, x :: a, b => by
    have := rkF_pre (i + 1) a b
    simp only [List.cons_append, rkF]
    omega
theorem mems_len_le (s : Nat) : (mems s 64).length ≤ 64 := by
  unfold mems
  exact Nat.le_trans (List.length_filter_le _ _) (by simp)
theorem rk_u64 (s : Nat) : rkF 0 (mems s 64) < 18446744073709551616 := Nat.lt_trans (rk_below s 64) (chs_u64 (Nat.le_refl _))
end Go.Proofs.YtiojbmcjcefdkaaDoor


/- The number of ones of a word, as math/bits counts them. Plain. -/
namespace Go.Tk

/-- how many of the first m are true -/
def cntB (F : Nat → Bool) : Nat → Nat
  | 0 => 0
  | m + 1 => cntB F m + (if F m then 1 else 0)
theorem cntB_le (F : Nat → Bool) : ∀ m, cntB F m ≤ m
  | 0 => Nat.le_refl _
  | m + 1 => by
    have := cntB_le F m
    rw [cntB]
    split <;> omega
theorem cntB_congr {F G : Nat → Bool} : ∀ {m}, (∀ j, j < m → F j = G j) → cntB F m = cntB G m
  | 0, _ => rfl
  | m + 1, h => by rw [cntB, cntB, cntB_congr (fun j hj => h j (by omega)), h m (by omega)]
theorem cntB_add (F : Nat → Bool) (a : Nat) : ∀ b, cntB F (a + b) = cntB F a + cntB (fun j => F (a + j)) b
  | 0 => rfl
  | b + 1 => by
    rw [← Nat.add_assoc, cntB, cntB_add F a b, cntB]
    omega
theorem cntB_false {F : Nat → Bool} : ∀ {m}, (∀ j, j < m → F j = false) → cntB F m = 0
  | 0, _ => rfl
  | m + 1, h => by rw [cntB, cntB_false (fun j hj => h j (by omega)), h m (by omega)]; rfl
/-- the number of these bytes -/
def byV : List Nat → Nat
  | [] => 0
  | b :: L => 256 * byV L + b
def bytesOf (x : Nat) : Nat → List Nat
  | 0 => []
  | n + 1 => x % 256 :: bytesOf (x / 256) n
theorem byV_of : ∀ (n x : Nat), x < 256 ^ n → byV (bytesOf x n) = x
  | 0, x, h => by simp at h; subst h; rfl
  | n + 1, x, h => by
    rw [bytesOf, byV, byV_of n (x / 256) (by rw [Nat.pow_succ] at h; omega)]
    omega
theorem bytesOf_lt : ∀ (n x : Nat), ∀ b ∈ bytesOf x n, b < 256
  | 0, _, b, h => by cases h
  | n + 1, x, b, h => by
    rcases List.mem_cons.1 h with rfl | h
    · omega
    · exact bytesOf_lt n _ b h
theorem bytesOf_len : ∀ (n x : Nat), (bytesOf x n).length = n
  | 0, _ => rfl
  | n + 1, x => by rw [bytesOf, List.length_cons, bytesOf_len n]
theorem bit8 (a b j : Nat) (hb : b < 256) : (256 * a + b).testBit j = if j < 8 then b.testBit j else a.testBit (j - 8) := Nat.testBit_two_pow_mul_add (i := 8) a hb j
theorem and_cons {a b c m : Nat} (hb : b < 256) (hm : m < 256) : (256 * a + b) &&& (256 * c + m) = 256 * (a &&& c) + (b &&& m) := by
  apply Nat.eq_of_testBit_eq
  intro j
  have h : b &&& m < 256 := Nat.lt_of_le_of_lt Nat.and_le_left hb
  rw [Nat.testBit_and, bit8 _ _ _ hb, bit8 _ _ _ hm, bit8 _ _ _ h]
  split
  · rw [Nat.testBit_and]
  · rw [Nat.testBit_and]
theorem shr_and_cons {a b c m k : Nat} (hb : b < 256) (hm : m < 2 ^ (8 - k)) (hk : k ≤ 8) : ((256 * a + b) / 2 ^ k) &&& (256 * c + m) = 256 * ((a / 2 ^ k) &&& c) + ((b / 2 ^ k) &&& m) := by
  have hm8 : m < 256 := Nat.lt_of_lt_of_le hm (show 2 ^ (8 - k) ≤ 2 ^ 8 from Nat.pow_le_pow_right (by omega) (by omega))
  apply Nat.eq_of_testBit_eq
  intro j
  have h : (b / 2 ^ k) &&& m < 256 := Nat.lt_of_le_of_lt Nat.and_le_right hm8
  rw [Nat.testBit_and, Nat.testBit_div_two_pow, bit8 _ _ _ hb, bit8 _ _ _ hm8, bit8 _ _ _ h]
  by_cases hj : j < 8
  · rw [if_pos hj, if_pos hj, Nat.testBit_and, Nat.testBit_div_two_pow]
    by_cases hjk : j + k < 8
    · rw [if_pos hjk]
    · have : m.testBit j = false := Nat.testBit_lt_two_pow (Nat.lt_of_lt_of_le hm (Nat.pow_le_pow_right (by omega) (by omega)))
      rw [this, Bool.and_false, Bool.and_false]
  · rw [if_neg hj, if_neg hj, if_neg (by omega), Nat.testBit_and, Nat.testBit_div_two_pow, show j + k - 8 = j - 8 + k by omega]
/-- one step of folding: pairs, then fours -/
theorem fold_step {k m : Nat} (hm : m < 2 ^ (8 - k)) (hk : k ≤ 8) : ∀ L : List Nat, (∀ b ∈ L, b < 256) →
    ((byV L / 2 ^ k) &&& byV (List.replicate L.length m)) + (byV L &&& byV (List.replicate L.length m)) = byV (L.map fun b => ((b / 2 ^ k) &&& m) + (b &&& m))
  | [], _ => by simp [byV]
  | b :: L, h => by
    have hb := h b (by simp)
    have hm8 : m < 256 := Nat.lt_of_lt_of_le hm (show 2 ^ (8 - k) ≤ 2 ^ 8 from Nat.pow_le_pow_right (by omega) (by omega))
    have ih := fold_step hm hk L (fun b hb => h b (by simp [hb]))
    rw [List.length_cons, List.replicate_succ, List.map_cons, byV, byV, byV, ← ih, shr_and_cons hb hm hk, and_cons hb hm8]
    omega
theorem fold_three : ∀ L : List Nat, (∀ b ∈ L, b / 16 ≤ 4 ∧ b % 16 ≤ 4) →
    byV L % 16 ≤ 4 ∧ ((byV L / 16 + byV L) &&& byV (List.replicate L.length 15)) = byV (L.map fun b => b / 16 + b % 16)
  | [], _ => by simp [byV]
  | b :: L, h => by
    obtain ⟨h1, h2⟩ := h b (by simp)
    obtain ⟨h3, ih⟩ := fold_three L (fun b hb => h b (by simp [hb]))
    rw [List.length_cons, List.replicate_succ, List.map_cons, byV, byV, byV, ← ih]
    generalize byV L = v at *
    generalize byV (List.replicate L.length 15) = r at *
    refine ⟨by omega, ?_⟩
    have e : (256 * v + b) / 16 + (256 * v + b) = 256 * (v / 16 + v) + (b / 16 + b % 16 + 16 * (b / 16 + v % 16)) := by omega
    rw [e, and_cons (by omega) (by omega)]
    congr 1
    rw [show (15 : Nat) = 2 ^ 4 - 1 by decide, Nat.and_two_pow_sub_one_eq_mod]
    omega
def f1 (b : Nat) : Nat := ((b / 2 ^ 1) &&& 85) + (b &&& 85)
def f2 (b : Nat) : Nat := ((b / 2 ^ 2) &&& 51) + (b &&& 51)
theorem byte_ones : ∀ b, b < 256 → f1 b < 256 ∧ f2 (f1 b) / 16 ≤ 4 ∧ f2 (f1 b) % 16 ≤ 4 ∧ f2 (f1 b) / 16 + f2 (f1 b) % 16 = cntB b.testBit 8 := by decide +kernel
/-- the ones of a word -/
def popc (x : Nat) : Nat := cntB x.testBit 64
theorem popc_bytes : ∀ (n x : Nat), x < 256 ^ n → ((bytesOf x n).map fun b => cntB b.testBit 8).sum = cntB x.testBit (8 * n)
  | 0, _, _ => rfl
  | n + 1, x, h => by
    rw [bytesOf, List.map_cons, List.sum_cons, popc_bytes n (x / 256) (by rw [Nat.pow_succ] at h; omega), show 8 * (n + 1) = 8 + 8 * n by omega, cntB_add]
    congr 1
    · refine cntB_congr fun j hj => ?_
      rw [show (256 : Nat) = 2 ^ 8 by decide, Nat.testBit_mod_two_pow]
      simp [hj]
    · refine cntB_congr fun j _ => ?_
      rw [show (256 : Nat) = 2 ^ 8 by decide, Nat.testBit_div_two_pow, Nat.add_comm]
theorem sum8 (p0 p1 p2 p3 p4 p5 p6 p7 : Nat) (h0 : p0 ≤ 8) (h1 : p1 ≤ 8) (h2 : p2 ≤ 8) (h3 : p3 ≤ 8) (h4 : p4 ≤ 8) (h5 : p5 ≤ 8) (h6 : p6 ≤ 8) (h7 : p7 ≤ 8) (x4 x5 x6 : Nat)
    (e4 : x4 = byV [p0, p1, p2, p3, p4, p5, p6, p7] + byV [p0, p1, p2, p3, p4, p5, p6, p7] / 256) (e5 : x5 = x4 + x4 / 65536) (e6 : x6 = x5 + x5 / 4294967296) :
    x4 < 18446744073709551616 ∧ x5 < 18446744073709551616 ∧ x6 < 9223372036854775808 ∧ x6 % 128 = p0 + p1 + p2 + p3 + p4 + p5 + p6 + p7 := by
  simp only [byV] at e4
  have a4 : x4 = (p0 + p1) + 256 * (p1 + p2) + 65536 * (p2 + p3) + 16777216 * (p3 + p4) + 4294967296 * (p4 + p5) + 1099511627776 * (p5 + p6) + 281474976710656 * (p6 + p7) + 72057594037927936 * p7 := by omega
  clear e4
  have a5 : x5 = (p0 + p1 + p2 + p3) + 256 * (p1 + p2 + p3 + p4) + 65536 * (p2 + p3 + p4 + p5) + 16777216 * (p3 + p4 + p5 + p6) + 4294967296 * (p4 + p5 + p6 + p7) + 1099511627776 * (p5 + p6 + p7) + 281474976710656 * (p6 + p7) + 72057594037927936 * p7 := by omega
  clear e5
  have a6 : x6 = (p0 + p1 + p2 + p3 + p4 + p5 + p6 + p7) + 256 * (p1 + p2 + p3 + p4 + (p5 + p6 + p7)) + 65536 * (p2 + p3 + p4 + p5 + (p6 + p7)) + 16777216 * (p3 + p4 + p5 + p6 + p7) + 4294967296 * (p4 + p5 + p6 + p7) + 1099511627776 * (p5 + p6 + p7) + 281474976710656 * (p6 + p7) + 72057594037927936 * p7 := by omega
  clear e6
  refine ⟨by omega, by omega, by omega, ?_⟩
  clear a4 a5
  have h : x6 % 256 = p0 + p1 + p2 + p3 + p4 + p5 + p6 + p7 := by omega
  omega
/-- the folding steps on a word: what is below, and the answer -/
theorem popc_steps (x x1 x2 x3 x4 x5 x6 : Nat) (hx : x < 18446744073709551616)
    (e1 : x1 = ((x / 2) &&& 6148914691236517205) + (x &&& 6148914691236517205)) (e2 : x2 = ((x1 / 4) &&& 3689348814741910323) + (x1 &&& 3689348814741910323))
    (e3 : x3 = (x2 / 16 + x2) &&& 1085102592571150095) (e4 : x4 = x3 + x3 / 256) (e5 : x5 = x4 + x4 / 65536) (e6 : x6 = x5 + x5 / 4294967296) :
    x1 < 18446744073709551616 ∧ x2 < 18446744073709551616 ∧ x2 / 16 + x2 < 18446744073709551616 ∧ x3 < 18446744073709551616 ∧ x4 < 18446744073709551616 ∧ x5 < 18446744073709551616 ∧ x6 < 9223372036854775808 ∧ x6 % 128 = popc x := by
  have hV := byV_of 8 x hx
  have hL := bytesOf_lt 8 x
  have hn := bytesOf_len 8 x
  have hpc := popc_bytes 8 x hx
  generalize bytesOf x 8 = L at hV hL hn hpc
  have hb := fun b (h : b ∈ L) => byte_ones b (hL b h)
  have s1 := fold_step (k := 1) (m := 85) (by decide) (by decide) L hL
  have hL1 : ∀ b ∈ L.map f1, b < 256 := fun b h => by obtain ⟨c, hc, rfl⟩ := List.mem_map.1 h; exact (hb c hc).1
  have s2 := fold_step (k := 2) (m := 51) (by decide) (by decide) (L.map f1) hL1
  have s3 := (fold_three ((L.map f1).map f2) (fun b h => by obtain ⟨c, hc, rfl⟩ := List.mem_map.1 h; obtain ⟨d, hd, rfl⟩ := List.mem_map.1 hc; exact ⟨(hb d hd).2.1, (hb d hd).2.2.1⟩)).2
  rw [List.length_map, List.length_map, hn, List.map_map, List.map_map] at s3
  rw [List.length_map, hn] at s2
  rw [hn, hV] at s1
  have e1' : x1 = byV (L.map f1) := e1.trans s1
  have e2' : x2 = byV ((L.map f1).map f2) := by rw [e2, e1']; exact s2
  rw [List.map_map] at e2'
  have e3' : x3 = byV (L.map fun b => cntB b.testBit 8) := by
    rw [e3, e2']
    refine s3.trans ?_
    congr 1
    refine List.map_congr_left fun b hbm => ?_
    exact (hb b hbm).2.2.2
  have l1 : x1 < 18446744073709551616 := by
    have h1 : (x / 2) &&& 6148914691236517205 ≤ 6148914691236517205 := Nat.and_le_right
    have h2 : x &&& 6148914691236517205 ≤ 6148914691236517205 := Nat.and_le_right
    omega
  have l2 : x2 ≤ 7378697629483820646 := by
    have h1 : (x1 / 4) &&& 3689348814741910323 ≤ 3689348814741910323 := Nat.and_le_right
    have h2 : x1 &&& 3689348814741910323 ≤ 3689348814741910323 := Nat.and_le_right
    omega
  have l3 : x3 ≤ 1085102592571150095 := by rw [e3]; exact Nat.and_le_right
  match L, hn, e3', hpc with
  | [b0, b1, b2, b3, b4, b5, b6, b7], _, e3', hpc =>
    simp only [List.map_cons, List.map_nil] at e3' hpc
    have h := sum8 _ _ _ _ _ _ _ _ (cntB_le b0.testBit 8) (cntB_le b1.testBit 8) (cntB_le b2.testBit 8) (cntB_le b3.testBit 8) (cntB_le b4.testBit 8) (cntB_le b5.testBit 8) (cntB_le b6.testBit 8) (cntB_le b7.testBit 8) x4 x5 x6 (by rw [e4, e3']) e5 e6
    refine ⟨l1, by omega, by omega, by omega, h.1, h.2.1, h.2.2.1, ?_⟩
    rw [h.2.2.2]
    unfold popc
    rw [show (64 : Nat) = 8 * 8 from rfl, ← hpc]
    simp only [List.sum_cons, List.sum_nil]
    omega
end Go.Tk


/- From a walk to a row that lists variables ('laid'). General. -/
namespace Go.Tk
open Go.RowKit Go.ChangeShapes Go.WideShapes

theorem lifted_laid {C : Checked} {os : Os} (started : os.Started) {H : Type} (enc : TypeId × Value → H) {f : FuncId} {fn : Func} {s : ChangeSpec} {sh : List (Bool × List Leaf)} {tb : TypeId} {n : Nat} {X : World → Prop} (hX : ∀ w w' : World, w.heap = w'.heap → X w → X w')
    (own : ownKnob C.prog.godebug = none) (hlo : laidOutB C.prog = true) (noInit : C.prog.inits.idxOf? f = none) (hfn : C.prog.funcs[f]? = some fn)
    (hr : fn.params.toList.all (fun t => C.prog.readableRec t && decide (t < C.prog.types.size)) = true) (hres : fn.resultTypes = #[tb]) (htb : C.prog.underlying tb = some .bool)
    (hvars : s.vars = []) (hspec : ∀ ds : List (DataW H), ds.length = fn.params.toList.length → s.fn H ds = { results := [.lit (.bool true)], args := ds }) (hsh : shapes C.prog n fn.params.toList = some sh)
    (witness : ∃ (w : World) (tape : Tape) (i : Input), w.os = os ∧ (w.forCall tape i).Shaped C.prog ∧ i.vars = [] ∧ Input.okWide C.prog (w.forCall tape i) .any w.heap.size f i ∧
      ((s.pre enc C.prog fn [] false (w.forCall tape i).memory i.args ∧ X (w.forCall tape i).memory) ∧ sizedMet enc C.prog fn (OpenSpec.ofChange s) false (w.forCall tape i).memory i.args) ∧ ({} : Assume).holds C.prog (lone (Frame.enter C.prog f i.args .normal) [] (w.forCall tape i)))
    (walk : ∀ (W : World) (args : List Value), ArgsOk W sh args → X W → Calls C.prog f args.toArray W fun e W' => e = .returned (.bool true) ∧ Below W.heap.size W W') :
    ReturnsInHanded {} C os f .any (fun w args => (s.pre enc C.prog fn [] false w args ∧ X w) ∧ sizedMet enc C.prog fn (OpenSpec.ofChange s) false w args) (s.post enc C.prog fn false true false false) := by
  refine returnsInHanded_of_change_and (C := C) (X := fun w _ => X w) (fun w w' _ hh h => hX w w' hh h) own started noInit hfn witness ?_
  intro W base args ds gs before hval hW _ hwt hXW _
  have hW' := hW
  obtain ⟨p, q, hA, hV, rfl, hfz, hnd⟩ := hW
  rw [hvars] at hV
  obtain ⟨rfl, rfl⟩ := trodVars_none hV
  simp only [List.append_nil] at hW' hwt
  have hwt' : (DataW.weightsEach C.prog fn.params.toList ds).all (· ≤ reachBytes) = true := by
    rw [List.all_eq_true] at hwt ⊢
    intro n hn
    have key : ∀ (ts us : List TypeId) (ds : List (DataW H)) (n : Nat), n ∈ DataW.weightsEach C.prog ts ds → n ∈ DataW.weightsEach C.prog (ts ++ us) ds := by
      intro ts
      induction ts with
      | nil => intro us ds n hn; simp [DataW.weightsEach] at hn
      | cons t ts ih =>
        intro us ds n hn
        cases ds with
        | nil => simp [DataW.weightsEach] at hn
        | cons d ds =>
          simp only [DataW.weightsEach, List.cons_append, List.mem_append] at hn ⊢
          rcases hn with hn | hn
          · exact .inl hn
          · exact .inr (ih us ds n hn)
    exact hwt n (key _ _ _ _ hn)
  have hok := args_ok (fun _ => rfl) n _ _ _ _ _ base hsh hA hwt' (fun j t v ht hv => hval j t v (by simpa using ht) (by simpa using hv))
  have hlen : ds.length = fn.params.toList.length := by
    have key : ∀ (ts : List TypeId) (vs : List Value) (ds : List (DataW H)) (ps : List MemPlace), DataW.TrodAll enc C.prog W 0 (fun _ => true) true ts vs ds ps → ds.length = ts.length := by
      intro ts
      induction ts with
      | nil => intro vs ds ps h; cases vs <;> cases ds <;> simp_all [DataW.TrodAll]
      | cons t ts ih =>
        intro vs ds ps h
        obtain ⟨v, vs', d, ds', p, q, rfl, rfl, rfl, h0, hrest⟩ := trodAll_cons h
        simp [ih _ _ _ hrest]
    exact key _ _ _ _ hA
  have hw := walk W args.toList hok hXW
  rw [Array.toArray_toList] at hw
  refine hw.mono fun e W' ⟨he, bel⟩ => ⟨_, he, ?_⟩
  have hr' : s.fn H (ds ++ []) = { results := [.lit (.bool true)], args := ds } := by rw [List.append_nil]; exact hspec ds hlen
  refine ⟨ds, [], p ++ [], [], p, [], by simpa using hW', ?_, ?_, ?_, bel.frame _, fun h => by cases h⟩
  · rw [hr', hres]
    exact trodAll_mk1 (shut_bool htb _)
  · rw [hr']
    exact trodAll_below hlo bel _ _ _ _ hr hA
  · rw [hr', hvars]
    rfl

end Go.Tk


/- A list of ints that came in: its cells. -/
namespace Go.Tk
theorem icell_in {w : World} (l : List Value) (h : CellsOk w [.int .i64] l) : ∃ x : Int, l = icell x := by
  simp only [CellsOk, CellOk] at h
  obtain ⟨v0, l0, rfl, ⟨n0, rfl, _⟩, rfl⟩ := h
  exact ⟨n0, rfl⟩
end Go.Tk
