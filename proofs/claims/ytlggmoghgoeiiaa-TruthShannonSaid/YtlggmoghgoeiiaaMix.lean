/- Tools of the walks of this seat: a region that draws its order: its reading operations first, then those that make or write memory, in their one order. No condition. -/
import Derived.Test.YtlggmoghgoeiiaaReg
import Derived.Deep.AppendLies
namespace Go.Tk
open Go.RowKit Go.Sort

section
variable {P : Program} {ops : Array Oper} {md : Region.Mode} {C : World → Prop} {Q : Exit → Act → World → Prop}

theorem Oper.wp_imp {o : Oper} {a : Act} {w : World} {K K' : Act → World → Prop} {Q Q' : Exit → Act → World → Prop} (hK : ∀ a w, K a w → K' a w) (hQ : ∀ e a w, Q e a w → Q' e a w)
    (h : o.wp P a w K Q) : o.wp P a w K' Q' := by
  unfold Oper.wp at h ⊢
  generalize (execOp a.eval o).run P w = r at h ⊢
  cases r with
  | ok n w' =>
    cases n <;> simp only [Oper.upon] at h ⊢ <;> try exact hK _ _ h
    case enter f args =>
      refine h.mono fun e w'' he => ?_
      cases e with
      | returned v => exact hK _ _ he
      | panicked c => exact hQ _ _ _ he
      | outgrown => obtain ⟨a0, w0, h0⟩ := he; exact ⟨a0, w0, hQ _ _ _ h0⟩
    case row row args => exact h.mono fun v w'' he => hK _ _ he
  | halt x w' =>
    cases x <;> simp only [Oper.upon] at h ⊢
    exact hQ _ _ _ h

/-- an operation that is no call of a Go function -/
def calm : Op → Bool
  | .move _ | .assign _ | .pick .. | .load .. | .nilCheck _ | .binOp .. | .unOp .. | .convert .. | .fieldAddr .. | .field .. | .indexAddr .. | .index .. | .build .. | .slice .. | .extract .. => true
  | .call { callee := .builtin .len, .. } | .call { callee := .builtin .cap, .. } => true
  | _ => false

theorem bind_value {α : Type} {s : Sem α} {g : α → Value} {w w' : World} {f : FuncId} {args : Array Value} : (do pure (Next.value (g (← s))) : Sem Next).run P w ≠ .ok (.enter f args) w' := by
  rw [Sem.run_bind]
  generalize s.run P w = r
  cases r with
  | ok a w1 => simp
  | halt x w1 => simp [Result.andThen]
theorem panic_enter {α : Type} {s : Sem α} {k : α → Sem Next} {w w' : World} {f : FuncId} {args : Array Value} (h : ∀ a w1, (k a).run P w1 ≠ .ok (.enter f args) w') : (do let a ← s; k a : Sem Next).run P w ≠ .ok (.enter f args) w' := by
  rw [Sem.run_bind]
  generalize s.run P w = r
  cases r with
  | ok a w1 => simpa using h a w1
  | halt x w1 => simp [Result.andThen]
theorem nil_enter {w w' : World} {f : FuncId} {args : Array Value} : (runtimePanic .nilDeref : Sem Next).run P w ≠ .ok (.enter f args) w' := by
  unfold runtimePanic
  refine panic_enter fun a w1 => ?_
  simp [goPanic]

theorem calm_enter {o : Oper} {ev : Operand → Value} {w w' : World} {f : FuncId} {args : Array Value} (h : calm o.op = true) : (execOp ev o).run P w ≠ .ok (.enter f args) w' := by
  unfold execOp
  cases hop : o.op <;> rw [hop] at h <;> simp only [calm] at h <;> first | cases h | skip
  all_goals try exact bind_value
  all_goals try (simp; done)
  all_goals try exact bind_value (g := fun b : Bool => if b = true then ev _ else ev _)
  case nilCheck x =>
    dsimp only
    split <;> try exact nil_enter
    · split
      · exact nil_enter
      · refine panic_enter fun a w1 => panic_enter fun b w2 => ?_
        split
        · exact panic_enter fun _ _ => by simp
        · simp
      · simp
    · simp
  case call c =>
    obtain ⟨cal, args, at'⟩ := c
    cases cal with
    | value f => cases h
    | invoke r m => cases h
    | builtin b =>
      cases b <;> first | cases h | skip
      all_goals
        simp only [resolve, Sem.run_bind, Sem.run_pure, Result.andThen_ok, invoke, builtin]
        generalize Sem.run P _ w = r
        cases r with
        | ok a w1 => simp
        | halt x w1 => simp [Result.andThen]

/-- 'o' yields 'v', in whatever world of the class, and leaves the world alone. -/
def YC (P : Program) (ops : Array Oper) (C : World → Prop) (o : Oper) (v : Value) (a : Act) : Prop :=
  (Region.wanted o (yielded ops a.tmps) = true ∧ ∀ w, C w → ((execOp a.eval o).run P w = .ok (.value v) w ∨ ((execOp a.eval o).run P w = .ok .skip w ∧ v = undef))) ∨
  (Region.wanted o (yielded ops a.tmps) = false ∧ v = undef)

theorem YC.of_same {o : Oper} {v : Value} {a a' : Act} (hy : YC P ops C o v a) (he : execOp a'.eval o = execOp a.eval o)
    (hw : Region.wanted o (yielded ops a'.tmps) = Region.wanted o (yielded ops a.tmps)) : YC P ops C o v a' := by
  unfold YC at *
  rw [he, hw]
  exact hy

/-- One operation that comes up: it keeps the class and does not panic, but for the last one. -/
def opC (P : Program) (ops : Array Oper) (C : World → Prop) (Q : Exit → Act → World → Prop) (n i : Nat) (K : Act → World → Prop) (a : Act) (w : World) : Prop :=
  if i < n then
    match ops[i]? with
    | none => K a w
    | some o => if Region.wanted o (yielded ops a.tmps) then o.wp P a w (fun a' w' => C w' ∧ K a' w') (fun _ _ _ => False) else K (a.put o.dst undef) w
  else wpOp P ops Q i K a w

def wpAnyC (P : Program) (md : Region.Mode) (ops : Array Oper) (C : World → Prop) (Q : Exit → Act → World → Prop) (n : Nat) : Nat → Array Bool → Act → World → Prop
  | 0, listed, a, w => Region.ready md ops listed = [] ∧ Q .normal a w
  | f + 1, listed, a, w => (Region.ready md ops listed = [] → Q .normal a w) ∧ ∀ i ∈ Region.ready md ops listed, opC P ops C Q n i (wpAnyC P md ops C Q n f (listed.setIfInBounds i true)) a w

theorem opC_mono {n i : Nat} {K K' : Act → World → Prop} {a : Act} {w : World} (hK : ∀ a w, K a w → K' a w) (h : opC P ops C Q n i K a w) : opC P ops C Q n i K' a w := by
  unfold opC at *
  split at h
  · rename_i hin
    rw [if_pos hin]
    cases ho : ops[i]? with
    | none => rw [ho] at h; exact hK _ _ h
    | some o =>
      rw [ho] at h
      dsimp only at h ⊢
      split at h
      · rename_i hw; rw [if_pos hw]; exact Oper.wp_imp (fun a w h => ⟨h.1, hK _ _ h.2⟩) (fun _ _ _ h => h) h
      · rename_i hw; rw [if_neg hw]; exact hK _ _ h
  · rename_i hin
    rw [if_neg hin]
    exact wpOp_mono hK h

theorem wpAny_of_C {n : Nat} : ∀ (f : Nat) (listed : Array Bool) (a : Act) (w : World), wpAnyC P md ops C Q n f listed a w → wpAny P md ops Q f listed a w
  | 0, _, _, _, h => h
  | f + 1, listed, a, w, h => ⟨h.1, fun i hi => by
    have h2 := h.2 i hi
    unfold opC at h2
    split at h2
    · unfold wpOp
      cases ho : ops[i]? with
      | none => rw [ho] at h2; exact wpAny_of_C f _ _ _ h2
      | some o =>
        rw [ho] at h2
        dsimp only at h2 ⊢
        split at h2
        · rename_i hw; rw [if_pos hw]; exact .inl (Oper.wp_imp (fun a w h => wpAny_of_C f _ _ _ h.2) (fun _ _ _ h => h.elim) h2)
        · rename_i hw; rw [if_neg hw]; exact wpAny_of_C f _ _ _ h2
    · exact wpOp_mono (fun a w h => wpAny_of_C f _ _ _ h) h2⟩

theorem opC_of_YC {n i : Nat} {oi : Oper} {v : Value} {a : Act} {w : World} {K : Act → World → Prop} (hi : ops[i]? = some oi) (hin : i < n) (hC : C w) (hy : YC P ops C oi v a) (hK : K (a.put oi.dst v) w) : opC P ops C Q n i K a w := by
  unfold opC
  rw [if_pos hin]
  simp only [hi]
  rcases hy with ⟨hw, hv⟩ | ⟨hw, rfl⟩
  · rw [if_pos hw]
    unfold Oper.wp
    rcases hv w hC with h | ⟨h, rfl⟩
    · rw [h]; exact ⟨hC, hK⟩
    · rw [h]; exact ⟨hC, hK⟩
  · rw [if_neg (by rw [hw]; simp)]
    exact hK

theorem put_defers (a : Act) (d : Option Tmp) (v : Value) (ds : List Deferred) : ({ (a.put d v) with defers := ds } : Act) = ({ a with defers := ds } : Act).put d v := by
  cases d <;> rfl
theorem put_defers' (a : Act) (d : Option Tmp) (v : Value) : (a.put d v).defers = a.defers := by cases d <;> rfl

theorem opC_put {n j : Nat} {oi oj : Oper} {v : Value} {a : Act} {w : World} {K : Act → World → Prop} (hj : ops[j]? = some oj) (hjn : j < n) (hap : oi.apart ops oj = true)
    (hsi : ∀ cs b, oi.op ≠ .select cs b) (hsj : ∀ cs b, oj.op ≠ .select cs b) (hC : C w) (hy : YC P ops C oi v a) (h : opC P ops C Q n j K (a.put oi.dst v) w) :
    opC P ops C Q n j (fun a' w' => C w' ∧ YC P ops C oi v a' ∧ K (a'.put oi.dst v) w') a w := by
  obtain ⟨h1, h2, h3⟩ := Oper.apart_spec hap
  have keep : ∀ (a : Act), YC P ops C oi v a → ∀ u, YC P ops C oi v (a.put oj.dst u) := fun a hy u =>
    hy.of_same (execOp_put oi hsi a oj.dst u h3) (wanted_put oi a oj.dst u h3)
  have keepd : ∀ (a : Act) (ds : List Deferred), YC P ops C oi v a → YC P ops C oi v { a with defers := ds } := fun a ds hy => hy.of_same rfl rfl
  unfold opC at *
  rw [if_pos hjn] at h ⊢
  simp only [hj] at h ⊢
  rw [wanted_put oj a oi.dst v h1] at h
  split
  · rename_i hw
    rw [if_pos hw] at h
    unfold Oper.wp at h ⊢
    rw [execOp_put oj hsj a oi.dst v h1] at h
    generalize (execOp a.eval oj).run P w = r at h ⊢
    cases r with
    | ok nx w' =>
      cases nx <;> simp only [Oper.upon] at h ⊢
      case value u => exact ⟨h.1, h.1, keep a hy u, by rw [← Act.put_comm a v u h2]; exact h.2⟩
      case skip => exact ⟨h.1, h.1, keep a hy _, by rw [← Act.put_comm a v undef h2]; exact h.2⟩
      case defer d =>
        refine ⟨h.1, h.1, keep _ (keepd a _ hy) _, ?_⟩
        have h4 := h.2
        rw [put_defers', put_defers] at h4
        rw [← Act.put_comm _ v undef h2]
        exact h4
      case enter f args =>
        refine h.mono fun e w'' he => ?_
        cases e with
        | returned u => exact ⟨he.1, he.1, keep a hy u, by rw [← Act.put_comm a v u h2]; exact he.2⟩
        | panicked c => exact he.elim
        | outgrown => obtain ⟨_, _, h0⟩ := he; exact h0.elim
      case row row args => exact h.mono fun u w'' he => ⟨he.1, he.1, keep a hy u, by rw [← Act.put_comm a v u h2]; exact he.2⟩
    | halt x w' =>
      cases x <;> simp only [Oper.upon] at h
  · rename_i hw
    rw [if_neg hw] at h
    exact ⟨hC, keep a hy _, by rw [← Act.put_comm a v undef h2]; exact h⟩

theorem wpAnyC_first {n i : Nat} {oi : Oper} {v : Value} (hi : ops[i]? = some oi) (hsel : ∀ (j : Nat) (o : Oper) cs b, ops[j]? = some o → o.op ≠ .select cs b)
    (hs : Region.sinkB md ops n = true) (hc : Region.chainB md ops n = true) (hn : n < ops.size) (_hn1 : n + 1 = ops.size) (hin : i < n) :
    ∀ (f : Nat) (listed : Array Bool) (a : Act) (w : World), HeadInv md ops n listed →
      (∀ j oj, ops[j]? = some oj → j ≠ i → listed.getD j true = false → (∀ e ∈ oj.after, Region.binds md e = true → e.on ≠ i) → oi.apart ops oj = true) →
      i ∈ Region.ready md ops listed → C w → YC P ops C oi v a →
      wpAnyC P md ops C Q n f (listed.setIfInBounds i true) (a.put oi.dst v) w → wpAnyC P md ops C Q n (f + 1) listed a w := by
  intro f
  induction f with
  | zero =>
    intro listed a w _ _ hr hC hy H
    refine ⟨fun h => (by rw [h] at hr; cases hr), fun j hj => ?_⟩
    by_cases hji : j = i
    · subst hji; exact opC_of_YC hi hin hC hy H
    · have := ready_mono hj hji
      rw [H.1] at this
      cases this
  | succ f ih =>
    intro listed a w inv hfree hr hC hy H
    have hun := (mem_ready.1 hr).1
    refine ⟨fun h => (by rw [h] at hr; cases hr), fun j hj => ?_⟩
    have hjn : j < n := by
      rcases Nat.lt_or_ge j n with h | h
      · exact h
      · exact absurd hj (tail_waits hs hc hn inv _ i rfl hin hun j h)
    by_cases hji : j = i
    · subst hji; exact opC_of_YC hi hin hC hy H
    · have h1 := H.2 j (ready_mono hj hji)
      obtain ⟨hjun, oj, hoj, hall⟩ := mem_ready.1 hj
      have hnot : ∀ e ∈ oj.after, Region.binds md e = true → e.on ≠ i := fun e he hb heq => by
        have h1 := hall e he hb
        rw [heq, getD_both hun] at h1
        cases h1
      have h2 := opC_put hoj hjn (hfree j oj hoj hji hjun hnot) (fun cs b => hsel i oi cs b hi) (fun cs b => hsel j oj cs b hoj) hC hy h1
      have hfree' : ∀ k ok, ops[k]? = some ok → k ≠ i → (listed.setIfInBounds j true).getD k true = false →
          (∀ e ∈ ok.after, Region.binds md e = true → e.on ≠ i) → oi.apart ops ok = true := fun k ok hk hki hun hno => by
        refine hfree k ok hk hki ?_ hno
        by_cases hjk : j = k
        · subst hjk; exact hjun
        · rw [getD_set_ne true hjk] at hun; exact hun
      refine opC_mono (fun a' w' h3 => ih (listed.setIfInBounds j true) a' w' (inv.set hj hjn) hfree' (ready_mono hr (Ne.symm hji)) h3.1 h3.2.1 ?_) h2
      rw [Array.setIfInBounds_comm _ _ hji]
      exact h3.2.2

/-- the operations that make or write memory, in their order -/
def wpEff (P : Program) (ops : Array Oper) (C : World → Prop) (Q : Exit → Act → World → Prop) : List Oper → Act → World → Prop
  | [], a, w => Q .normal a w
  | [o], a, w => wpList P ops Q [o] a w
  | o :: o' :: rest, a, w => if Region.wanted o (yielded ops a.tmps) then o.wp P a w (fun a' w' => C w' ∧ wpEff P ops C Q (o' :: rest) a' w') (fun _ _ _ => False) else wpEff P ops C Q (o' :: rest) (a.put o.dst undef) w

def pick (l : List Oper) (is : List Nat) : List Oper := is.map fun i => l.getD i default

def effB (md : Region.Mode) (ops : Array Oper) (n : Nat) : List Nat → Array Bool → Bool
  | [], _ => false
  | [e], listed => decide (Region.ready md ops listed = [e]) && decide (e = n) && decide (Region.ready md ops (listed.setIfInBounds e true) = [])
  | e :: e' :: r, listed => decide (Region.ready md ops listed = [e]) && decide (e < n) && effB md ops n (e' :: r) (listed.setIfInBounds e true)

theorem wpAnyC_eff {n : Nat} : ∀ (es : List Nat) (listed : Array Bool) (a : Act) (w : World), effB md ops n es listed = true → (∀ e ∈ es, e < ops.size) →
    wpEff P ops C Q (pick ops.toList es) a w → wpAnyC P md ops C Q n es.length listed a w
  | [], _, _, _, h, _, _ => by simp [effB] at h
  | [e], listed, a, w, h, hlt, hw => by
    simp only [effB, Bool.and_eq_true, decide_eq_true_eq] at h
    have hel : e < ops.size := hlt e (by simp)
    have ho : ops[e]? = some ops[e] := Array.getElem?_eq_getElem hel
    refine ⟨fun h0 => (by rw [h.1.1] at h0; cases h0), fun i hi => ?_⟩
    rw [h.1.1] at hi
    obtain rfl : i = e := by simpa using hi
    have hp : pick ops.toList [i] = [ops[i]] := by simp [pick, ho]
    rw [hp] at hw
    simp only [wpEff, wpList] at hw
    unfold opC
    rw [if_neg (by omega)]
    unfold wpOp
    simp only [ho]
    split at hw
    · rename_i hwt
      rw [if_pos hwt]
      rcases hw with hw | hw
      · exact .inl (Oper.wp_imp (fun a' w' hq => ⟨h.2, hq⟩) (fun _ _ _ h => h) hw)
      · exact .inr hw
    · rename_i hwt
      rw [if_neg hwt]
      exact ⟨h.2, hw⟩
  | e :: e' :: r, listed, a, w, h, hlt, hw => by
    simp only [effB, Bool.and_eq_true, decide_eq_true_eq] at h
    have hel : e < ops.size := hlt e (by simp)
    have ho : ops[e]? = some ops[e] := Array.getElem?_eq_getElem hel
    have hel' : e' < ops.size := hlt e' (by simp)
    have ho' : ops[e']? = some ops[e'] := Array.getElem?_eq_getElem hel'
    refine ⟨fun h0 => (by rw [h.1.1] at h0; cases h0), fun i hi => ?_⟩
    rw [h.1.1] at hi
    obtain rfl : i = e := by simpa using hi
    have hp : pick ops.toList (i :: e' :: r) = ops[i] :: ops[e'] :: pick ops.toList r := by simp [pick, ho, ho']
    have hp' : pick ops.toList (e' :: r) = ops[e'] :: pick ops.toList r := by simp [pick, ho']
    rw [hp] at hw
    simp only [wpEff] at hw
    rw [← hp'] at hw
    have ih := fun a' w' => wpAnyC_eff (e' :: r) (listed.setIfInBounds i true) a' w' h.2 (fun e he => hlt e (List.mem_cons_of_mem _ he))
    unfold opC
    rw [if_pos h.1.2]
    simp only [ho]
    split at hw
    · rename_i hwt
      rw [if_pos hwt]
      exact Oper.wp_imp (fun a' w' hq => ⟨hq.1, ih a' w' hq.2⟩) (fun _ _ _ h => h) hw
    · rename_i hwt
      rw [if_neg hwt]
      exact ih _ _ hw

def mixB (md : Region.Mode) (ops : Array Oper) (n : Nat) (es : List Nat) : List Nat → Array Bool → Bool
  | [], listed => effB md ops n es listed
  | i :: r, listed => decide (i < n) && (match ops[i]? with | some o => calm o.op | none => false) && (Region.ready md ops listed).contains i && Region.free md ops listed i && mixB md ops n es r (listed.setIfInBounds i true)

theorem wpAnyC_mix {n : Nat} {es : List Nat} (hsel : Region.noSelect ops = true) (hs : Region.sinkB md ops n = true) (hc : Region.chainB md ops n = true) (hn1 : n + 1 = ops.size) (hes : ∀ e ∈ es, e < ops.size) {w : World} (hC : C w) :
    ∀ (is : List Nat) (listed : Array Bool) (a : Act), mixB md ops n es is listed = true → HeadInv md ops n listed →
      wpQuiet P ops C (fun a' => wpEff P ops C Q (pick ops.toList es) a' w) (pick ops.toList is) a → wpAnyC P md ops C Q n (is.length + es.length) listed a w
  | [], listed, a, hB, _, h => by
    rw [List.length_nil, Nat.zero_add]
    exact wpAnyC_eff es listed a w hB hes h
  | i :: r, listed, a, hB, inv, h => by
    simp only [mixB, Bool.and_eq_true, decide_eq_true_eq] at hB
    obtain ⟨⟨⟨⟨hin, hcalm⟩, hr⟩, hf⟩, hB'⟩ := hB
    have hel : i < ops.size := by omega
    have ho : ops[i]? = some ops[i] := Array.getElem?_eq_getElem hel
    simp only [ho] at hcalm
    have hr' : i ∈ Region.ready md ops listed := by simpa using hr
    have hp : pick ops.toList (i :: r) = ops[i] :: pick ops.toList r := by simp [pick, ho]
    rw [hp] at h
    rw [List.length_cons, show r.length + 1 + es.length = (r.length + es.length) + 1 by omega]
    simp only [wpQuiet] at h
    split at h
    · rename_i hw
      obtain ⟨v, hv, hK⟩ := h
      refine wpAnyC_first ho (Region.noSelect_spec hsel) hs hc (by omega) hn1 hin _ listed a w inv (Region.free_spec ho hf) hr' hC (v := v) ?_ (wpAnyC_mix hsel hs hc hn1 hes hC r _ _ hB' (inv.set hr' hin) hK)
      refine .inl ⟨hw, fun w hw' => ?_⟩
      have h3 := hv w hw'
      unfold Oper.quietAt at h3
      have hne := fun w' f args => calm_enter (P := P) (ev := a.eval) (w := w) (w' := w') (f := f) (args := args) hcalm
      generalize (execOp a.eval ops[i]).run P w = res at h3 hne ⊢
      cases res with
      | ok nx w' =>
        cases nx <;> simp only [Oper.quietUpon] at h3
        case value u => obtain ⟨rfl, rfl⟩ := h3; exact .inl rfl
        case skip => obtain ⟨rfl, rfl⟩ := h3; exact .inr ⟨rfl, rfl⟩
        case enter f args => exact absurd rfl (hne w' f args)
      | halt x w' => simp only [Oper.quietUpon] at h3
    · rename_i hw
      exact wpAnyC_first ho (Region.noSelect_spec hsel) hs hc (by omega) hn1 hin _ listed a w inv (Region.free_spec ho hf) hr' hC (v := undef) (.inr ⟨by simpa using hw, rfl⟩) (wpAnyC_mix hsel hs hc hn1 hes hC r _ _ hB' (inv.set hr' hin) h)

/-- Reading operations 'is' first, then 'es', the last of which stands last in the text. 'C': what the reading operations read is the same in all its worlds. -/
theorem wp_mix {id : Nat} {a : Act} {w : World} {l : List Oper} (C : World → Prop) (is es : List Nat) (hm : P.follows .mixedOrders = true)
    (hB : (Region.noSelect l.toArray && Region.sinkB .any l.toArray (l.length - 1) && Region.chainB .any l.toArray (l.length - 1) && decide (0 < l.length) && es.all (fun e => decide (e < l.length)) && decide (is.length + es.length = l.length) &&
      mixB .any l.toArray (l.length - 1) es is (Array.replicate l.length false)) = true)
    (hC : C w.drew) (h : wpQuiet P l.toArray C (fun a' => wpEff P l.toArray C Q (pick l es) a' w.drew) (pick l is) a) : (Code.region id l.toArray true).wp P Q a w := by
  simp only [Bool.and_eq_true, decide_eq_true_eq] at hB
  obtain ⟨⟨⟨⟨⟨⟨hsel, hs⟩, hc⟩, hl0⟩, hes⟩, hlen⟩, hmix⟩ := hB
  have hes' : ∀ e ∈ es, e < l.toArray.size := fun e he => by
    have := List.all_eq_true.1 hes e he
    simpa using this
  have inv0 : HeadInv .any l.toArray (l.length - 1) (Array.replicate l.length false) :=
    ⟨by simp, fun j oj _ hl => (by rw [getD_replicate_false] at hl; cases hl), fun t _ ht => getD_in (by simpa using ht) (getD_replicate_false _ _)⟩
  have H := wpAnyC_mix (P := P) (md := .any) (ops := l.toArray) (C := C) (Q := Q) hsel hs hc (by simp; omega) hes' hC is _ a hmix inv0 (by simpa using h)
  refine wp_region_any hm ?_
  have := wpAny_of_C _ _ _ _ H
  rw [hlen] at this
  simpa using this

theorem wpEff_step {o o' : Oper} {rest : List Oper} {a : Act} {w : World}
    (h : ∀ K : Act → World → Prop, (∀ a w, C w → wpEff P ops C Q (o' :: rest) a w → K a w) → if Region.wanted o (yielded ops a.tmps) then o.wp P a w K (fun _ _ _ => False) else (C w → K (a.put o.dst undef) w)) (hC : C w) :
    wpEff P ops C Q (o :: o' :: rest) a w := by
  have h1 := h (fun a w => C w ∧ wpEff P ops C Q (o' :: rest) a w) (fun a w hc hw => ⟨hc, hw⟩)
  unfold wpEff
  split
  · rename_i hw; rw [if_pos hw] at h1; exact h1
  · rename_i hw; rw [if_neg hw] at h1; exact (h1 hC).2
theorem wpEff_plain {o o' : Oper} {rest : List Oper} {a : Act} {w : World} (hg : o.guard = none)
    (h : ∀ K : Act → World → Prop, (∀ a w, C w → wpEff P ops C Q (o' :: rest) a w → K a w) → o.wp P a w K (fun _ _ _ => False)) :
    wpEff P ops C Q (o :: o' :: rest) a w := by
  have h1 := h (fun a w => C w ∧ wpEff P ops C Q (o' :: rest) a w) (fun a w hc hw => ⟨hc, hw⟩)
  unfold wpEff
  rw [if_pos (by simp [Region.wanted, hg])]
  exact h1
theorem wpEff_last {o : Oper} {a : Act} {w : World} (h : wpList P ops Q [o] a w) : wpEff P ops C Q [o] a w := h
end

/-- w, later: old blocks outside S are as they were. -/
structure Lat (S : Nat → Prop) (w0 : World) where
  w : World
  frm : Frm S w0 w
instance Lat.inh (S : Nat → Prop) (w0 : World) : Inhabited (Lat S w0) := ⟨⟨w0, Frm.refl S w0⟩⟩
def lat {S : Nat → Prop} {w0 : World} (p : Lat S w0) : World := p.w
theorem Lat.of {S : Nat → Prop} {w0 : World} (p : Lat S w0) : Frm S w0 (lat p) := p.frm
theorem Lat.cell {S : Nat → Prop} {w0 : World} (p : Lat S w0) (a : Addr) (h : a.block < w0.heap.size) (hs : ¬ S a.block) : (lat p).cell? a = w0.cell? a := p.frm.cell h hs
theorem Lat.frozen {S : Nat → Prop} {w0 : World} (p : Lat S w0) (a : Addr) (h : a.block < w0.heap.size) (hs : ¬ S a.block) : (lat p).frozen? a = w0.frozen? a := World.frozen?_of_block (p.frm.block _ h hs)
theorem Lat.mk_ {S : Nat → Prop} {w0 w : World} (h : Frm S w0 w) : ∃ p : Lat S w0, w = lat p := ⟨⟨w, h⟩, rfl⟩
attribute [go_sem] Lat.cell Lat.frozen
/-- the class: what is later than w0, turned in S alone -/
theorem wp_mixS {P : Program} {Q : Exit → Act → World → Prop} {id : Nat} {a : Act} {w : World} {l : List Oper} (S : Nat → Prop) (is es : List Nat) (hm : P.follows .mixedOrders = true)
    (hB : (Region.noSelect l.toArray && Region.sinkB .any l.toArray (l.length - 1) && Region.chainB .any l.toArray (l.length - 1) && decide (0 < l.length) && es.all (fun e => decide (e < l.length)) && decide (is.length + es.length = l.length) &&
      mixB .any l.toArray (l.length - 1) es is (Array.replicate l.length false)) = true)
    (h : wpQuiet P l.toArray (fun w' => ∃ p : Lat S w, w' = lat p) (fun a' => wpEff P l.toArray (fun w' => ∃ p : Lat S w, w' = lat p) Q (pick l es) a' w.drew) (pick l is) a) : (Code.region id l.toArray true).wp P Q a w :=
  wp_mix (fun w' => ∃ p : Lat S w, w' = lat p) is es hm hB (Lat.mk_ (Frm.drew (Frm.refl S w))) h

/-! append of one record, laid in a block of its own -/
theorem news_of_blk {w : World} {nb : Nat} {e : TypeId} {l : List Value} (h : Blk w nb e l.toArray) : ∀ j u, l[j]? = some u → w.cell? ((⟨nb, 0, none⟩ : Addr).add j) = some u := by
  intro j u hj
  have hadd : (⟨nb, 0, none⟩ : Addr).add j = ⟨nb, j, none⟩ := by unfold Addr.add; split <;> simp_all
  rw [hadd, h.cell]
  simpa using hj
theorem Own.append {P : Program} {o : Oper} {a : Act} {w : World} {K : Act → World → Prop} {Q : Exit → Act → World → Prop} {e : TypeId} {m : Nat} {α : Type} {f : α → List Value} {A : Option Addr} {N C : Nat} {xs : List α}
    (s x : Operand) (t : TypeId) (ho : o.op = .call { callee := .builtin .append, args := #[s, x], argTypes := #[t, t] }) (ht : P.underlying t = some (.slice e))
    {z : Value} {bytes : Nat} (hinfo : (P.info? e).map (fun i => (i.zero, i.size, i.bytes)) = some (some z, m, bytes)) (hzs : z.cells.size = m) (hm : 0 < m)
    (hs : a.eval s = .slice A N C) (h : Own w e m f A N C xs) (hf : ∀ x, (f x).length = m) (x0 : α) (nb cx : Nat) (hx : a.eval x = .slice (some ⟨nb, 0, none⟩) 1 cx) (hnb : Blk w nb e (f x0).toArray)
    (h1 : ∀ u ∈ f x0, u.oneCell' = true) (h63 : xs.length + 1 ≤ maxLen) (hb : (xs.length + 1) * bytes ≤ 140737488355328)
    (hK : ∀ g cap w', Own w' e m f (some ⟨g, 0, none⟩) (N + 1) cap (xs ++ [x0]) → w.grownBy w' (Value.slice A N C).ownBlock → ((Value.slice A N C).ownBlock = some g ∨ g = w.heap.size) → K (a.put o.dst (.slice (some ⟨g, 0, none⟩) (N + 1) cap)) w') :
    o.wp P a w K Q := by
  obtain ⟨i, hi, hz, hsz, hby⟩ := info_parts hinfo
  obtain rfl := h.len
  refine wp_append_lies w s x t ho 0 e i z m bytes ht hi hz hsz hby hzs hm _ _ _ hs h.own ⟨nb, 0, none⟩ 1 cx (f x0) hx (by rw [hf, Nat.one_mul]) (news_of_blk hnb) h1 (by omega) h63 hb (Nat.zero_le _) w.heap.size rfl ?_
  intro g cap w' hown hg hat _
  refine hK g cap w' ⟨by simp, ?_⟩ hg hat
  simpa using hown
theorem Own.append_list {P : Program} {ops : Array Oper} {rest : List Oper} {o : Oper} {a : Act} {w : World} {Q : Exit → Act → World → Prop} {e : TypeId} {m : Nat} {α : Type} {f : α → List Value} {A : Option Addr} {N C : Nat} {xs : List α} (hgd : o.guard = none)
    (s x : Operand) (t : TypeId) (ho : o.op = .call { callee := .builtin .append, args := #[s, x], argTypes := #[t, t] }) (ht : P.underlying t = some (.slice e))
    {z : Value} {bytes : Nat} (hinfo : (P.info? e).map (fun i => (i.zero, i.size, i.bytes)) = some (some z, m, bytes)) (hzs : z.cells.size = m) (hm : 0 < m)
    (hs : a.eval s = .slice A N C) (h : Own w e m f A N C xs) (hf : ∀ x, (f x).length = m) (x0 : α) (nb cx : Nat) (hx : a.eval x = .slice (some ⟨nb, 0, none⟩) 1 cx) (hnb : Blk w nb e (f x0).toArray)
    (h1 : ∀ u ∈ f x0, u.oneCell' = true) (h63 : xs.length + 1 ≤ maxLen) (hb : (xs.length + 1) * bytes ≤ 140737488355328)
    (hK : ∀ g cap w', Own w' e m f (some ⟨g, 0, none⟩) (N + 1) cap (xs ++ [x0]) → w.grownBy w' (Value.slice A N C).ownBlock → ((Value.slice A N C).ownBlock = some g ∨ g = w.heap.size) → wpList P ops Q rest (a.put o.dst (.slice (some ⟨g, 0, none⟩) (N + 1) cap)) w') :
    wpList P ops Q (o :: rest) a w :=
  wpList_plain hgd fun _ hk => Own.append s x t ho ht hinfo hzs hm hs h hf x0 nb cx hx hnb h1 h63 hb fun g cap w' a b c => hk _ _ (hK g cap w' a b c)
end Go.Tk
