/- Tools of the walks of this seat, over any program: frames of memory, blocks known whole, data that came in read as cells. No condition. -/
import Derived.WalkKit
import Derived.WalkSpells
import Derived.WalkLawsBesides
import Derived.ProofKit
import Derived.OpenShut
import Derived.ShutString
import Derived.ChangeOld
import Derived.BigQuiet
import Derived.Deep.QuietTactic
import Derived.Deep.Slices
import Derived.Lib.Hide
import Derived.Handy
namespace Go.Tk
open Go.RowKit Go.ChangeShapes Go.WideShapes Go.Deep

/-! ### Data that came in -/
inductive Leaf where
  | int (k : IntKind)
  | bool
  | str
  | slice (bytes : Nat) (ks : List Leaf)

mutual
def CellOk (w : World) : Leaf → Value → Prop
  | .int k, v => ∃ n, v = .int k n ∧ (Lit.int k n).wf = true
  | .bool, v => ∃ b, v = .bool b
  | .str, v => ∃ s, v = .string s ∧ s.size ≤ maxLen
  | .slice bytes ks, v => ∃ a len cap, v = .slice a len cap ∧ len ≤ cap ∧ cap ≤ maxLen ∧ cap * bytes ≤ reachBytes ∧ (a = none → len = 0 ∧ cap = 0) ∧
      ∀ ad, a = some ad → ∀ i, i < len → RowOk w ks (fun j => w.cell? (ad.add (i * ks.length + j)))
def RowOk (w : World) : List Leaf → (Nat → Option Value) → Prop
  | [], _ => True
  | k :: ks, f => (∃ v, f 0 = some v ∧ CellOk w k v) ∧ RowOk w ks (fun j => f (j + 1))
end

def leavesFs (L : TypeId → Option (List Leaf)) (C : TypeId → Nat) : List Field → Nat → Option (List Leaf)
  | [], _ => some []
  | f :: fs, off =>
    if f.offset = off then
      match L f.type with
      | none => none
      | some ks => if ks.length = C f.type then (match leavesFs L C fs (off + ks.length) with | none => none | some r => some (ks ++ r)) else none
    else none

def leaves (P : Program) : Nat → TypeId → Option (List Leaf)
  | 0, _ => none
  | n + 1, t =>
    match P.underlying t with
    | some .bool => some [.bool]
    | some (.int k) => some [.int k]
    | some .string => some [.str]
    | some (.slice e) => match leaves P n e with
      | none => none
      | some ks => if ks.length = P.cellsOf e ∧ 0 < ks.length then some [.slice (P.bytesOf e) ks] else none
    | some (.struct fs) => match leavesFs (leaves P n) P.cellsOf fs.toList 0 with
      | none => none
      | some ks => if ks.length = P.cellsOf t then some ks else none
    | _ => none

theorem RowOk.congr {w : World} : ∀ {ks : List Leaf} {f g : Nat → Option Value}, (∀ j, j < ks.length → f j = g j) → RowOk w ks f → RowOk w ks g
  | [], _, _, _, _ => by simp [RowOk]
  | k :: ks, f, g, h, hf => by
    simp only [RowOk] at hf ⊢
    refine ⟨?_, RowOk.congr (fun j hj => h (j + 1) (by simp; omega)) hf.2⟩
    rw [← h 0 (by simp)]
    exact hf.1

theorem RowOk.append {w : World} : ∀ {ks ls : List Leaf} {f : Nat → Option Value}, RowOk w ks f → RowOk w ls (fun j => f (j + ks.length)) → RowOk w (ks ++ ls) f
  | [], ls, f, _, h => by simpa using h
  | k :: ks, ls, f, hk, h => by
    simp only [RowOk, List.cons_append] at hk ⊢
    exact ⟨hk.1, RowOk.append hk.2 (RowOk.congr (fun j _ => by simp only [List.length_cons]; congr 1) h)⟩

section
variable {H : Type} {enc : TypeId × Value → H} {P : Program} {w : World} {base : Nat} {spare : Nat → Bool} {held : Bool}

theorem weights_fields : ∀ {fs : List Field} {xs : List (DataW H × List MemPlace)} {i : Nat} {f : Field} {x : DataW H × List MemPlace}, fs[i]? = some f → xs[i]? = some x →
    (DataW.weightsEach P (fs.map (·.type)) (xs.map (·.1))).all (· ≤ reachBytes) = true → (x.1.weights P f.type).all (· ≤ reachBytes) = true := by
  intro fs xs i f x hf hx h
  rw [List.all_eq_true] at h ⊢
  intro n hn
  exact h n (DataW.weights_mem_each (j := i) (by simp [hf]) (by simp [hx]) n hn)

theorem weights_elems : ∀ {e : TypeId} {ds : List (DataW H)} {d : DataW H}, d ∈ ds → (DataW.weightsAll P e ds).all (· ≤ reachBytes) = true → (d.weights P e).all (· ≤ reachBytes) = true
  | e, d0 :: ds, d, hd, h => by
    simp only [DataW.weightsAll, List.all_append, Bool.and_eq_true] at h
    rcases List.mem_cons.1 hd with rfl | hd
    · exact h.1
    · exact weights_elems hd h.2

theorem leavesFs_ok (L : TypeId → Option (List Leaf)) (n : Nat)
    (hL : ∀ t ks cs x, L t = some ks → DataW.trod enc P w base spare held n t cs = some x → (x.1.weights P t).all (· ≤ reachBytes) = true → cs.length = ks.length ∧ RowOk w ks (fun j => cs[j]?)) :
    ∀ (fs : List Field) (off : Nat) (ks : List Leaf) (cs : List Value), leavesFs L P.cellsOf fs off = some ks →
      (∀ (i : Nat) (f : Field), fs[i]? = some f → ∃ x, DataW.trod enc P w base spare held n f.type ((cs.drop f.offset).take (P.cellsOf f.type)) = some x ∧ (x.1.weights P f.type).all (· ≤ reachBytes) = true) →
      RowOk w ks (fun j => cs[off + j]?) ∧ (ks = [] ∨ off + ks.length ≤ cs.length)
  | [], off, ks, cs, h, _ => by
    simp only [leavesFs, Option.some.injEq] at h
    subst h
    simp [RowOk]
  | f :: fs, off, ks, cs, h, hf => by
    unfold leavesFs at h
    split at h
    case isFalse => cases h
    rename_i hoff
    split at h
    · cases h
    rename_i ks0 h0
    split at h
    case isFalse => cases h
    rename_i hlen
    split at h
    · cases h
    rename_i r hr
    simp only [Option.some.injEq] at h
    subst h
    obtain ⟨x, hx, hxw⟩ := hf 0 f rfl
    obtain ⟨hl, hrow⟩ := hL _ _ _ _ h0 hx hxw
    rw [hoff, ← hlen] at hl hrow
    have hlen2 : ks0 = [] ∨ off + ks0.length ≤ cs.length := by
      simp only [List.length_take, List.length_drop] at hl
      rcases Nat.eq_zero_or_pos ks0.length with h | h
      · exact .inl (List.eq_nil_of_length_eq_zero h)
      · right; omega
    obtain ⟨hrest, hrl⟩ := leavesFs_ok L n hL fs (off + ks0.length) r cs hr (fun i g hg => hf (i + 1) g (by simpa using hg))
    refine ⟨RowOk.append (RowOk.congr (fun j hj => ?_) hrow) (RowOk.congr (fun j _ => ?_) hrest), ?_⟩
    · rw [List.getElem?_take_of_lt hj, List.getElem?_drop]
    · congr 1; omega
    · rcases hrl with rfl | h
      · rcases hlen2 with rfl | h
        · left; rfl
        · right; simpa using h
      · right; simp; omega

theorem trod_ok (hsp : ∀ b, spare b = true) : ∀ (n : Nat) (t : TypeId) (ks : List Leaf), leaves P n t = some ks → ∀ (fuel : Nat) (cs : List Value) (x : DataW H × List MemPlace),
    DataW.trod enc P w base spare held fuel t cs = some x → (x.1.weights P t).all (· ≤ reachBytes) = true → cs.length = ks.length ∧ RowOk w ks (fun j => cs[j]?)
  | 0, _, _, h, _, _, _, _, _ => by simp [leaves] at h
  | n + 1, t, ks, h, fuel, cs, x, ht, hw => by
    unfold leaves at h
    split at h
    · rename_i hu
      simp only [Option.some.injEq] at h
      subst h
      cases fuel with
      | zero => simp [DataW.trod] at ht
      | succ fuel =>
        unfold DataW.trod at ht
        rw [hu] at ht
        split at ht <;> simp_all [RowOk, CellOk]
    · rename_i k hu
      simp only [Option.some.injEq] at h
      subst h
      cases fuel with
      | zero => simp [DataW.trod] at ht
      | succ fuel =>
        unfold DataW.trod at ht
        rw [hu] at ht
        split at ht <;> simp_all [RowOk, CellOk]
    · rename_i hu
      simp only [Option.some.injEq] at h
      subst h
      cases fuel with
      | zero => simp [DataW.trod] at ht
      | succ fuel =>
        unfold DataW.trod at ht
        rw [hu] at ht
        split at ht <;> simp_all [RowOk, CellOk]
    · rename_i e hu
      split at h
      · cases h
      rename_i ks0 h0
      split at h
      case isFalse => cases h
      rename_i hlen
      simp only [Option.some.injEq] at h
      subst h
      rcases open_slice hu ht with ⟨rfl, rfl⟩ | ⟨a, len, cap, m, k, D, Pl, rfl, hb, hl, hm, hmm, rfl, hel⟩
      · refine ⟨rfl, ?_⟩
        simp only [RowOk, CellOk, List.getElem?_cons_zero, Option.some.injEq, exists_eq_left', and_true]
        exact ⟨none, 0, 0, rfl, Nat.le_refl _, Nat.zero_le _, by simp, fun _ => ⟨rfl, rfl⟩, fun ad h => by cases h⟩
      · refine ⟨rfl, ?_⟩
        simp only [RowOk, CellOk, List.getElem?_cons_zero, Option.some.injEq, exists_eq_left', and_true]
        rw [hsp, if_pos rfl] at hmm
        subst hmm
        simp only [DataW.weights, hu, List.all_cons, List.all_append, Bool.and_eq_true, List.length_map, List.length_range, decide_eq_true_eq] at hw
        refine ⟨_, _, _, rfl, hl, hm, ?_, (by intro h; cases h), ?_⟩
        · have := hw.1
          rw [show len + (m - len) = m from by omega] at this
          exact this
        · intro ad had i hi
          injection had with had
          subst had
          obtain ⟨cs', hc, htr⟩ := hel i (by omega)
          obtain ⟨_, hcl, hat⟩ := World.cells?_some hc
          have hd : (D i).weights P e |>.all (· ≤ reachBytes) := weights_elems (List.mem_map.2 ⟨i, by simpa using hi, rfl⟩) hw.2.1
          obtain ⟨hl', hrow⟩ := trod_ok hsp n e ks0 h0 k cs' _ htr hd
          refine RowOk.congr (fun j hj => ?_) hrow
          rw [← hat j (by omega), Go.Deep.add_add, hlen.1]
    · rename_i fs hu
      split at h
      · cases h
      rename_i ks0 h0
      split at h
      case isFalse => cases h
      rename_i hlen
      simp only [Option.some.injEq] at h
      subst h
      obtain ⟨xs, k, rfl, rfl, hcl, hxl, hf⟩ := DataW.trod_struct hu ht
      simp only [DataW.weights, hu] at hw
      obtain ⟨h1, h2⟩ := leavesFs_ok (leaves P n) k (fun t ks cs x h ht hw => trod_ok hsp n t ks h k cs x ht hw) fs.toList 0 ks0 cs h0 (fun i f hi => by
        have hi' : fs[i]? = some f := by simpa using hi
        have hlt : i < fs.size := (Array.getElem?_eq_some_iff.1 hi').1
        have hx : xs[i]? = some (xs[i]'(by omega)) := List.getElem?_eq_getElem (by omega)
        exact ⟨_, (hf i f hi').trans hx, weights_fields hi hx hw⟩)
      exact ⟨by rw [hcl, hlen], RowOk.congr (fun j _ => by rw [Nat.zero_add]) h1⟩
    · cases h
end

/-! ### All arguments, and the step from a walk to the row -/
def isAgg (P : Program) (t : TypeId) : Bool := match P.underlying t with | some (.struct _) => true | _ => false

def ArgOk (w : World) (agg : Bool) (ks : List Leaf) (v : Value) : Prop :=
  match agg with
  | true => ∃ cs : Array Value, v = .agg cs ∧ cs.size = ks.length ∧ RowOk w ks (fun j => cs[j]?)
  | false => match ks with | [k] => CellOk w k v | _ => False

def ArgsOk (w : World) : List (Bool × List Leaf) → List Value → Prop
  | [], vs => vs = []
  | (b, ks) :: r, vs => ∃ v vs', vs = v :: vs' ∧ ArgOk w b ks v ∧ ArgsOk w r vs'

def shapes (P : Program) (n : Nat) : List TypeId → Option (List (Bool × List Leaf))
  | [] => some []
  | t :: ts => match leaves P n t, shapes P n ts with
    | some ks, some r => some ((isAgg P t, ks) :: r)
    | _, _ => none

section
variable {H : Type} {enc : TypeId × Value → H} {P : Program} {w : World} {base : Nat} {spare : Nat → Bool} {held : Bool}

theorem arg_ok (hsp : ∀ b, spare b = true) {n : Nat} {t : TypeId} {ks : List Leaf} {v : Value} {d : DataW H} {ps : List MemPlace} {b0 : Nat} (hl : leaves P n t = some ks) (hv : Value.okWide P w .any b0 t v)
    (h : DataW.Trod enc P w base spare held t v d ps) (hw : (d.weights P t).all (· ≤ reachBytes) = true) : ArgOk w (isAgg P t) ks v := by
  obtain ⟨fuel, hf⟩ := h
  obtain ⟨h1, h2⟩ := trod_ok hsp n t ks hl fuel _ _ hf hw
  cases n with
  | zero => simp [leaves] at hl
  | succ n =>
    unfold leaves at hl
    unfold isAgg
    split at hl
    · rename_i hu
      obtain ⟨b, rfl⟩ := okWide_bool hu hv
      simp_all [ArgOk, Value.cells]
      subst hl
      simpa [RowOk] using h2
    · rename_i k hu
      obtain ⟨b, rfl⟩ := okWide_int hu hv
      simp_all [ArgOk, Value.cells]
      subst hl
      simpa [RowOk] using h2
    · rename_i hu
      obtain ⟨b, rfl⟩ := okWide_string hu hv
      simp_all [ArgOk, Value.cells]
      subst hl
      simpa [RowOk] using h2
    · rename_i e hu
      obtain ⟨a, l, c, rfl⟩ := okWide_slice hu hv
      split at hl
      · cases hl
      split at hl
      case isFalse => cases hl
      simp only [Option.some.injEq] at hl
      subst hl
      simp only [hu, ArgOk]
      simpa [RowOk, Value.cells] using h2
    · rename_i fs hu
      obtain ⟨cs, rfl, hsz⟩ := okWide_struct hu hv
      simp only [hu, ArgOk]
      exact ⟨cs, rfl, by simpa [Value.cells] using h1, by simpa [Value.cells] using h2⟩
    · cases hl

theorem args_ok (hsp : ∀ b, spare b = true) (n : Nat) : ∀ (ts : List TypeId) (vs : List Value) (ds : List (DataW H)) (ps : List MemPlace) (sh : List (Bool × List Leaf)) (b0 : Nat), shapes P n ts = some sh →
    DataW.TrodAll enc P w base spare held ts vs ds ps → (DataW.weightsEach P ts ds).all (· ≤ reachBytes) = true →
    (∀ (j : Nat) t v, ts[j]? = some t → vs[j]? = some v → Value.okWide P w .any b0 t v) → ArgsOk w sh vs
  | [], vs, ds, ps, sh, b0, h, ht, _, _ => by
    simp only [shapes, Option.some.injEq] at h
    subst h
    cases vs <;> cases ds <;> simp_all [DataW.TrodAll, ArgsOk]
  | t :: ts, vs, ds, ps, sh, b0, h, ht, hw, hv => by
    obtain ⟨v, vs', d, ds', p, q, rfl, rfl, rfl, h0, hr⟩ := trodAll_cons ht
    unfold shapes at h
    split at h
    case h_2 => cases h
    rename_i ks r hk hsr
    simp only [Option.some.injEq] at h
    subst h
    simp only [DataW.weightsEach, List.all_append, Bool.and_eq_true] at hw
    exact ⟨v, vs', rfl, arg_ok hsp hk (hv 0 t v rfl rfl) h0 hw.1, args_ok hsp n ts vs' ds' q r b0 hsr hr hw.2 (fun j t v ht hv' => hv (j + 1) t v (by simpa using ht) (by simpa using hv'))⟩

theorem trodAll_below (hl : laidOutB P = true) {W W' : World} (bel : Below W.heap.size W W') : ∀ (ts : List TypeId) (vs : List Value) (ds : List (DataW H)) (ps : List MemPlace),
    ts.all (fun t => P.readableRec t && decide (t < P.types.size)) = true → DataW.TrodAll enc P W 0 (fun _ => true) true ts vs ds ps →
    DataW.TrodAll enc P W' 0 (fun b => decide (b < W.heap.size)) true ts vs ds ps
  | [], vs, ds, ps, _, h => by cases vs <;> cases ds <;> simp_all [DataW.TrodAll]
  | t :: ts, vs, ds, ps, hr, h => by
    obtain ⟨v, vs', d, ds', p, q, rfl, rfl, rfl, h0, hrest⟩ := trodAll_cons h
    simp only [List.all_cons, Bool.and_eq_true, decide_eq_true_eq] at hr
    have lt0 : ∀ x ∈ p, x.block < W.heap.size := by obtain ⟨m, hm⟩ := h0; exact DataW.trod_lt m _ _ _ hm
    exact trodAll_cons_mk (Below.trod hl hr.1.1 hr.1.2 h0 bel lt0) (trodAll_below hl bel ts vs' ds' q hr.2 hrest)
end

theorem lifted {C : Checked} {os : Os} (started : os.Started) {H : Type} (enc : TypeId × Value → H) {f : FuncId} {fn : Func} {s : ChangeSpec} {sh : List (Bool × List Leaf)} {tb : TypeId} {n : Nat}
    (own : ownKnob C.prog.godebug = none) (hlo : laidOutB C.prog = true) (noInit : C.prog.inits.idxOf? f = none) (hfn : C.prog.funcs[f]? = some fn)
    (hr : fn.params.toList.all (fun t => C.prog.readableRec t && decide (t < C.prog.types.size)) = true) (hres : fn.resultTypes = #[tb]) (htb : C.prog.underlying tb = some .bool)
    (hvars : s.vars = []) (hspec : ∀ ds : List (DataW H), ds.length = fn.params.toList.length → s.fn H ds = { results := [.lit (.bool true)], args := ds }) (hsh : shapes C.prog n fn.params.toList = some sh)
    (witness : ∃ (w : World) (tape : Tape) (i : Input), w.os = os ∧ (w.forCall tape i).Shaped C.prog ∧ i.vars = [] ∧ Input.okWide C.prog (w.forCall tape i) .any w.heap.size f i ∧
      s.pre6 enc C.prog fn [] false (w.forCall tape i).memory i.args ∧ ({} : Assume).holds C.prog (lone (Frame.enter C.prog f i.args .normal) [] (w.forCall tape i)))
    (walk : ∀ (W : World) (args : List Value), ArgsOk W sh args → Calls C.prog f args.toArray W fun e W' => e = .returned (.bool true) ∧ Below W.heap.size W W') :
    ReturnsInHanded {} C os f .any (s.pre6 enc C.prog fn [] false) (s.post enc C.prog fn false true false false) := by
  refine returnsInHanded_of_change_sized (C := C) own started noInit hfn witness ?_
  intro W base args ds gs before hval hW _ hwt _
  have hW' := hW
  obtain ⟨p, q, hA, hV, rfl, hfz, hnd⟩ := hW
  rw [hvars] at hV
  obtain ⟨rfl, rfl⟩ := trodVars_none hV
  simp only [List.append_nil] at hW' hwt
  have hwt' : (DataW.weightsEach C.prog fn.params.toList ds).all (· ≤ reachBytes) = true := by
    rw [List.all_eq_true] at hwt ⊢
    intro n hn
    have key : ∀ (ts us : List TypeId) (ds : List (DataW H)) (n : Nat), n ∈ DataW.weightsEach C.prog ts ds → n ∈ DataW.weightsEach C.prog (ts ++ us) ds := by
      intro ts
      induction ts with
      | nil => intro us ds n hn; simp [DataW.weightsEach] at hn
      | cons t ts ih =>
        intro us ds n hn
        cases ds with
        | nil => simp [DataW.weightsEach] at hn
        | cons d ds =>
          simp only [DataW.weightsEach, List.cons_append, List.mem_append] at hn ⊢
          rcases hn with hn | hn
          · exact .inl hn
          · exact .inr (ih us ds n hn)
    exact hwt n (key _ _ _ _ hn)
  have hok := args_ok (fun _ => rfl) n _ _ _ _ _ base hsh hA hwt' (fun j t v ht hv => hval j t v (by simpa using ht) (by simpa using hv))
  have hlen : ds.length = fn.params.toList.length := by
    have key : ∀ (ts : List TypeId) (vs : List Value) (ds : List (DataW H)) (ps : List MemPlace), DataW.TrodAll enc C.prog W 0 (fun _ => true) true ts vs ds ps → ds.length = ts.length := by
      intro ts
      induction ts with
      | nil => intro vs ds ps h; cases vs <;> cases ds <;> simp_all [DataW.TrodAll]
      | cons t ts ih =>
        intro vs ds ps h
        obtain ⟨v, vs', d, ds', p, q, rfl, rfl, rfl, h0, hrest⟩ := trodAll_cons h
        simp [ih _ _ _ hrest]
    exact key _ _ _ _ hA
  have hw := walk W args.toList hok
  rw [Array.toArray_toList] at hw
  refine hw.mono fun e W' ⟨he, bel⟩ => ⟨_, he, ?_⟩
  have hr' : s.fn H (ds ++ []) = { results := [.lit (.bool true)], args := ds } := by rw [List.append_nil]; exact hspec ds hlen
  refine ⟨ds, [], p ++ [], [], p, [], by simpa using hW', ?_, ?_, ?_, bel.frame _, fun h => by cases h⟩
  · rw [hr', hres]
    exact trodAll_mk1 (shut_bool htb _)
  · rw [hr']
    exact trodAll_below hlo bel _ _ _ _ hr hA
  · rw [hr', hvars]
    rfl

/-! ### What came in, as lists of records -/
def CellsOk (w : World) : List Leaf → List Value → Prop
  | [], vs => vs = []
  | k :: ks, vs => ∃ v vs', vs = v :: vs' ∧ CellOk w k v ∧ CellsOk w ks vs'

theorem cells_of_row {w : World} : ∀ (ks : List Leaf) (f : Nat → Option Value), RowOk w ks f → ∃ l, CellsOk w ks l ∧ ∀ j, j < ks.length → f j = l[j]?
  | [], _, _ => ⟨[], rfl, fun j hj => by simp at hj⟩
  | k :: ks, f, h => by
    simp only [RowOk] at h
    obtain ⟨⟨v, hv, hk⟩, hr⟩ := h
    obtain ⟨l, hl, hj⟩ := cells_of_row ks _ hr
    refine ⟨v :: l, ⟨v, l, rfl, hk, hl⟩, fun j hjl => ?_⟩
    cases j with
    | zero => simpa using hv
    | succ j => simpa using hj j (by simpa using hjl)
theorem CellsOk.length {w : World} : ∀ {ks : List Leaf} {l : List Value}, CellsOk w ks l → l.length = ks.length
  | [], l, h => by simp only [CellsOk] at h; simp [h]
  | k :: ks, l, h => by
    obtain ⟨v, vs, rfl, _, h2⟩ := h
    simp [CellsOk.length h2]
theorem agg_ok {w : World} {ks : List Leaf} {v : Value} (h : ArgOk w true ks v) : ∃ l, v = .agg l.toArray ∧ CellsOk w ks l := by
  obtain ⟨cs, rfl, hs, hr⟩ := h
  obtain ⟨l, hl, hj⟩ := cells_of_row _ _ hr
  refine ⟨l, ?_, hl⟩
  have : cs.toList = l := by
    apply List.ext_getElem?
    intro j
    by_cases hjl : j < ks.length
    · rw [← hj j hjl]; simp
    · rw [List.getElem?_eq_none (by simp; omega), List.getElem?_eq_none (by rw [hl.length]; omega)]
  rw [← this]

theorem lt_get {β : Type} {l : List β} {i : Nat} {x : β} (h : l[i]? = some x) : i < l.length := by
  rcases Nat.lt_or_ge i l.length with h' | h'
  · exact h'
  · rw [List.getElem?_eq_none h'] at h; cases h
theorem choose_list {α : Type} (n : Nat) (Q : Nat → α → Prop) (h : ∀ i, i < n → ∃ x, Q i x) : ∃ xs : List α, xs.length = n ∧ ∀ i x, xs[i]? = some x → Q i x := by
  induction n with
  | zero => exact ⟨[], rfl, fun i x hx => by simp at hx⟩
  | succ n ih =>
    obtain ⟨xs, hl, hx⟩ := ih (fun i hi => h i (by omega))
    obtain ⟨y, hy⟩ := h n (by omega)
    refine ⟨xs ++ [y], by simp [hl], fun i x hi => ?_⟩
    have hlt := lt_get hi
    rw [List.getElem?_append] at hi
    split at hi
    · exact hx i x hi
    · rename_i hge
      simp at hlt
      have hin : i = n := by omega
      subst hin
      simp [hl] at hi
      subst hi
      exact hy

/-- A slice's value reads as the records xs, m cells each. -/
structure Sl (w : World) (m : Nat) {α : Type} (f : α → List Value) (A : Option Addr) (n : Nat) (xs : List α) : Prop where
  len : n = xs.length
  get : ∀ (i : Nat) (x : α), xs[i]? = some x → ∃ b off, A = some ⟨b, off, none⟩ ∧ b < w.heap.size ∧ ∀ j, j < m → w.cell? ⟨b, off + i * m + j, none⟩ = (f x)[j]?

theorem slice_ok {w : World} {bytes : Nat} {ks : List Leaf} {v : Value} {α : Type} (f : α → List Value) (hk : 0 < ks.length) (hf : ∀ l, CellsOk w ks l → ∃ x, l = f x) (h : CellOk w (.slice bytes ks) v) :
    ∃ A n c xs, v = .slice A n c ∧ n ≤ c ∧ c ≤ maxLen ∧ c * bytes ≤ reachBytes ∧ Sl w ks.length f A n xs := by
  simp only [CellOk] at h
  obtain ⟨a, len, cap, rfl, hl, hm, hb, hnone, hr⟩ := h
  obtain ⟨xs, hxl, hx⟩ := choose_list (α := α) len (fun i x => ∃ ad, a = some ad ∧ ∀ j, j < ks.length → w.cell? (ad.add (i * ks.length + j)) = (f x)[j]? ∧ (f x).length = ks.length) (fun i hi => by
    cases a with
    | none => have := (hnone rfl).1; omega
    | some ad =>
      obtain ⟨l, hl, hj⟩ := cells_of_row _ _ (hr ad rfl i hi)
      obtain ⟨x, rfl⟩ := hf l hl
      exact ⟨x, ad, rfl, fun j hjl => ⟨hj j hjl, hl.length⟩⟩)
  refine ⟨a, len, cap, xs, rfl, hl, hm, hb, hxl.symm, fun i x hi => ?_⟩
  have hlen0 : 0 < len := by have := lt_get hi; omega
  obtain ⟨ad, rfl, hc⟩ := hx i x hi
  have hx0 : ∃ x0, xs[0]? = some x0 := ⟨_, List.getElem?_eq_getElem (by omega)⟩
  obtain ⟨x0, hx0⟩ := hx0
  obtain ⟨ad', hae, hc0⟩ := hx 0 x0 hx0
  injection hae with hae
  subst hae
  have h0 := hc0 0 hk
  simp only [Nat.zero_mul, Nat.add_zero] at h0
  have h01 : ∃ u, w.cell? ad = some u := by
    have e : ad.add 0 = ad := by simp [Addr.add]
    rw [e] at h0
    exact ⟨_, h0.1.trans (List.getElem?_eq_getElem (by rw [h0.2]; exact hk))⟩
  obtain ⟨u, hu⟩ := h01
  have hblk := World.block_lt_of_cell? w _ hu
  obtain ⟨b, off, spot⟩ := ad
  cases spot with
  | some s =>
    exfalso
    unfold World.cell? at hu
    split at hu <;> simp at hu
  | none =>
    refine ⟨b, off, rfl, hblk, fun j hj => ?_⟩
    rw [← (hc j hj).1]
    have : (⟨b, off, none⟩ : Addr).add (i * ks.length + j) = ⟨b, off + i * ks.length + j, none⟩ := by
      unfold Addr.add
      split
      · rename_i h; rw [show off + i * ks.length + j = off by omega]
      · simp [Nat.add_assoc]
    rw [this]

theorem Sl.later {w w' : World} {m : Nat} {α : Type} {f : α → List Value} {A : Option Addr} {n : Nat} {xs : List α} (h : Sl w m f A n xs) (hb : Below w.heap.size w w') : Sl w' m f A n xs :=
  ⟨h.len, fun i x hi => by
    obtain ⟨b, off, h1, h2, h3⟩ := h.get i x hi
    exact ⟨b, off, h1, Nat.lt_of_lt_of_le h2 hb.size, fun j hj => by rw [hb.cell (p := ⟨b, off + i * m + j, none⟩) h2]; exact h3 j hj⟩⟩
end Go.Tk
