/- A region that draws its order, in phases: reading operations, then one that makes or writes memory (or the last one), and so on. General. -/
import Derived.Test.YtlggmoghgoeiiaaStep
namespace Go.Tk
open Go.RowKit Go.Sort

section
variable {P : Program} {ops : Array Oper} {md : Region.Mode} {C : World → Prop} {Q : Exit → Act → World → Prop}

/-- one operation that makes or writes memory, then what follows -/
def effStep (P : Program) (ops : Array Oper) (C : World → Prop) (o : Oper) (a : Act) (w : World) (K : Act → World → Prop) : Prop :=
  if Region.wanted o (yielded ops a.tmps) then o.wp P a w (fun a' w' => C w' ∧ K a' w') (fun _ _ _ => False) else K (a.put o.dst undef) w

def wpPh (P : Program) (ops : Array Oper) (C : World → Prop) (Q : Exit → Act → World → Prop) : List (List Nat × Nat) → Act → World → Prop
  | [], a, w => Q .normal a w
  | [(is, e)], a, w => wpQuiet P ops C (fun a' => wpList P ops Q (pick ops.toList [e]) a' w) (pick ops.toList is) a
  | (is, e) :: x :: r, a, w => wpQuiet P ops C (fun a' => effStep P ops C (ops.toList.getD e default) a' w (wpPh P ops C Q (x :: r))) (pick ops.toList is) a

def calmAt (ops : Array Oper) (i : Nat) : Bool := match ops[i]? with | some o => calm o.op | none => false
def qsB (md : Region.Mode) (ops : Array Oper) (n : Nat) (K : Array Bool → Bool) : List Nat → Array Bool → Bool
  | [], listed => K listed
  | i :: r, listed => decide (i < n) && calmAt ops i && (Region.ready md ops listed).contains i && Region.free md ops listed i && qsB md ops n K r (listed.setIfInBounds i true)
def phB (md : Region.Mode) (ops : Array Oper) (n : Nat) : List (List Nat × Nat) → Array Bool → Bool
  | [], _ => false
  | [(is, e)], listed => qsB md ops n (fun listed => decide (Region.ready md ops listed = [e]) && decide (e = n) && decide (Region.ready md ops (listed.setIfInBounds e true) = [])) is listed
  | (is, e) :: x :: r, listed => qsB md ops n (fun listed => decide (Region.ready md ops listed = [e]) && decide (e < n) && phB md ops n (x :: r) (listed.setIfInBounds e true)) is listed
def phLen : List (List Nat × Nat) → Nat
  | [] => 0
  | (is, _) :: r => is.length + (1 + phLen r)

theorem wpAnyC_qs {n g : Nat} {B : Array Bool → Bool} {w : World} {L : Act → Prop} (hsel : Region.noSelect ops = true) (hs : Region.sinkB md ops n = true) (hc : Region.chainB md ops n = true) (hn1 : n + 1 = ops.size) (hC : C w)
    (hL : ∀ listed a, B listed = true → HeadInv md ops n listed → L a → wpAnyC P md ops C Q n g listed a w) :
    ∀ (is : List Nat) (listed : Array Bool) (a : Act), qsB md ops n B is listed = true → HeadInv md ops n listed → wpQuiet P ops C L (pick ops.toList is) a → wpAnyC P md ops C Q n (is.length + g) listed a w
  | [], listed, a, hB, inv, h => by
    rw [List.length_nil, Nat.zero_add]
    exact hL listed a hB inv h
  | i :: r, listed, a, hB, inv, h => by
    simp only [qsB, Bool.and_eq_true, decide_eq_true_eq] at hB
    obtain ⟨⟨⟨⟨hin, hcalm⟩, hr⟩, hf⟩, hB'⟩ := hB
    have hel : i < ops.size := by omega
    have ho : ops[i]? = some ops[i] := Array.getElem?_eq_getElem hel
    simp only [calmAt, ho] at hcalm
    have hr' : i ∈ Region.ready md ops listed := by simpa using hr
    have hp : pick ops.toList (i :: r) = ops[i] :: pick ops.toList r := by simp [pick, ho]
    rw [hp] at h
    rw [List.length_cons, show r.length + 1 + g = (r.length + g) + 1 by omega]
    simp only [wpQuiet] at h
    split at h
    · rename_i hw
      obtain ⟨v, hv, hK⟩ := h
      refine wpAnyC_first ho (Region.noSelect_spec hsel) hs hc (by omega) hn1 hin _ listed a w inv (Region.free_spec ho hf) hr' hC (v := v) ?_ (wpAnyC_qs hsel hs hc hn1 hC hL r _ _ hB' (inv.set hr' hin) hK)
      refine .inl ⟨hw, fun w hw' => ?_⟩
      have h3 := hv w hw'
      unfold Oper.quietAt at h3
      have hne := fun w' f args => calm_enter (P := P) (ev := a.eval) (w := w) (w' := w') (f := f) (args := args) hcalm
      generalize (execOp a.eval ops[i]).run P w = res at h3 hne ⊢
      cases res with
      | ok nx w' =>
        cases nx <;> simp only [Oper.quietUpon] at h3
        case value u => obtain ⟨rfl, rfl⟩ := h3; exact .inl rfl
        case skip => obtain ⟨rfl, rfl⟩ := h3; exact .inr ⟨rfl, rfl⟩
        case enter f args => exact absurd rfl (hne w' f args)
      | halt x w' => simp only [Oper.quietUpon] at h3
    · rename_i hw
      exact wpAnyC_first ho (Region.noSelect_spec hsel) hs hc (by omega) hn1 hin _ listed a w inv (Region.free_spec ho hf) hr' hC (v := undef) (.inr ⟨by simpa using hw, rfl⟩) (wpAnyC_qs hsel hs hc hn1 hC hL r _ _ hB' (inv.set hr' hin) h)

theorem wpAnyC_ph {n : Nat} (hsel : Region.noSelect ops = true) (hs : Region.sinkB md ops n = true) (hc : Region.chainB md ops n = true) (hn1 : n + 1 = ops.size) :
    ∀ (ph : List (List Nat × Nat)) (listed : Array Bool) (a : Act) (w : World), phB md ops n ph listed = true → HeadInv md ops n listed → C w → wpPh P ops C Q ph a w → wpAnyC P md ops C Q n (phLen ph) listed a w
  | [], _, _, _, h, _, _, _ => by simp [phB] at h
  | [(is, e)], listed, a, w, h, inv, hC, hw => by
    simp only [phB] at h
    simp only [wpPh] at hw
    refine wpAnyC_qs hsel hs hc hn1 hC (g := 1 + phLen []) (fun listed a hB inv hw => ?_) is listed a h inv hw
    simp only [Bool.and_eq_true, decide_eq_true_eq] at hB
    have hel : e < ops.size := by omega
    have ho : ops[e]? = some ops[e] := Array.getElem?_eq_getElem hel
    refine ⟨fun h0 => (by rw [hB.1.1] at h0; cases h0), fun i hi => ?_⟩
    rw [hB.1.1] at hi
    obtain rfl : i = e := by simpa using hi
    have hp : pick ops.toList [i] = [ops[i]] := by simp [pick, ho]
    rw [hp] at hw
    simp only [wpList] at hw
    unfold opC
    rw [if_neg (by omega)]
    unfold wpOp
    simp only [ho]
    split at hw
    · rename_i hwt
      rw [if_pos hwt]
      rcases hw with hw | hw
      · exact .inl (Oper.wp_imp (fun a' w' hq => ⟨hB.2, hq⟩) (fun _ _ _ h => h) hw)
      · exact .inr hw
    · rename_i hwt
      rw [if_neg hwt]
      exact ⟨hB.2, hw⟩
  | (is, e) :: x :: r, listed, a, w, h, inv, hC, hw => by
    simp only [phB] at h
    simp only [wpPh] at hw
    refine wpAnyC_qs hsel hs hc hn1 hC (g := 1 + phLen (x :: r)) (fun listed a hB inv hw => ?_) is listed a h inv hw
    simp only [Bool.and_eq_true, decide_eq_true_eq] at hB
    have hel : e < ops.size := by omega
    have ho : ops[e]? = some ops[e] := Array.getElem?_eq_getElem hel
    have hre : e ∈ Region.ready md ops listed := by rw [hB.1.1]; simp
    rw [Nat.add_comm 1]
    refine ⟨fun h0 => (by rw [hB.1.1] at h0; cases h0), fun i hi => ?_⟩
    rw [hB.1.1] at hi
    obtain rfl : i = e := by simpa using hi
    have hg : ops.toList.getD i default = ops[i] := by simp [ho]
    rw [hg] at hw
    unfold effStep at hw
    unfold opC
    rw [if_pos hB.1.2]
    simp only [ho]
    split at hw
    · rename_i hwt
      rw [if_pos hwt]
      exact Oper.wp_imp (fun a' w' hq => ⟨hq.1, wpAnyC_ph hsel hs hc hn1 (x :: r) _ _ _ hB.2 (inv.set hre hB.1.2) hq.1 hq.2⟩) (fun _ _ _ h => h) hw
    · rename_i hwt
      rw [if_neg hwt]
      exact wpAnyC_ph hsel hs hc hn1 (x :: r) _ _ _ hB.2 (inv.set hre hB.1.2) hC hw

theorem wp_ph {id : Nat} {a : Act} {w : World} {l : List Oper} (C : World → Prop) (ph : List (List Nat × Nat)) (hm : P.follows .mixedOrders = true)
    (hB : (Region.noSelect l.toArray && Region.sinkB .any l.toArray (l.length - 1) && Region.chainB .any l.toArray (l.length - 1) && decide (0 < l.length) && decide (phLen ph = l.length) &&
      phB .any l.toArray (l.length - 1) ph (Array.replicate l.length false)) = true)
    (hC : C w.drew) (h : wpPh P l.toArray C Q ph a w.drew) : (Code.region id l.toArray true).wp P Q a w := by
  simp only [Bool.and_eq_true, decide_eq_true_eq] at hB
  obtain ⟨⟨⟨⟨⟨hsel, hs⟩, hc⟩, hl0⟩, hlen⟩, hph⟩ := hB
  have inv0 : HeadInv .any l.toArray (l.length - 1) (Array.replicate l.length false) :=
    ⟨by simp, fun j oj _ hl => (by rw [getD_replicate_false] at hl; cases hl), fun t _ ht => getD_in (by simpa using ht) (getD_replicate_false _ _)⟩
  have H := wpAnyC_ph (P := P) (md := .any) (ops := l.toArray) (C := C) (Q := Q) hsel hs hc (by simp; omega) ph _ a w.drew hph inv0 hC h
  refine wp_region_any hm ?_
  have := wpAny_of_C _ _ _ _ H
  rw [hlen] at this
  simpa using this
theorem effStep_plain {o : Oper} {a : Act} {w : World} {K : Act → World → Prop} (hg : o.guard = none)
    (h : ∀ K' : Act → World → Prop, (∀ a w, C w → K a w → K' a w) → o.wp P a w K' (fun _ _ _ => False)) : effStep P ops C o a w K := by
  have h1 := h (fun a w => C w ∧ K a w) (fun a w hc hw => ⟨hc, hw⟩)
  unfold effStep
  rw [if_pos (by simp [Region.wanted, hg])]
  exact h1
/-- a call at such a step -/
theorem effStep_call {o : Oper} {a : Act} {w : World} {K : Act → World → Prop} {f : FuncId} {args : Array Value} (hg : o.guard = none) (he : (execOp a.eval o).run P w = .ok (.enter f args) w)
    (h : Calls P f args w fun e w' => ∃ v, e = .returned v ∧ C w' ∧ K (a.put o.dst v) w') : effStep P ops C o a w K := by
  refine effStep_plain hg fun K' hK => ?_
  unfold Oper.wp
  rw [he]
  refine h.mono fun e w' hx => ?_
  obtain ⟨v, rfl, hc, hk⟩ := hx
  exact hK _ _ hc hk
end
/-- the class: what is later than w, turned in S alone -/
theorem wp_phS {P : Program} {Q : Exit → Act → World → Prop} {id : Nat} {a : Act} {w : World} {l : List Oper} (S : Nat → Prop) (ph : List (List Nat × Nat)) (hm : P.follows .mixedOrders = true)
    (hB : (Region.noSelect l.toArray && Region.sinkB .any l.toArray (l.length - 1) && Region.chainB .any l.toArray (l.length - 1) && decide (0 < l.length) && decide (phLen ph = l.length) &&
      phB .any l.toArray (l.length - 1) ph (Array.replicate l.length false)) = true)
    (h : wpPh P l.toArray (fun w' => ∃ p : Lat S w, w' = lat p) Q ph a w.drew) : (Code.region id l.toArray true).wp P Q a w :=
  wp_ph (fun w' => ∃ p : Lat S w, w' = lat p) ph hm hB (Lat.mk_ (Frm.drew (Frm.refl S w))) h

/-! the same with forks: two operations that make or write memory may come in either order -/
inductive PT where
  | last (e : Nat)
  | q (is : List Nat) (t : PT)
  | step (e : Nat) (t : PT)
  | fork (i : Nat) (t : PT) (j : Nat) (u : PT)
def ptLen : PT → Nat
  | .last _ => 1
  | .q is t => is.length + ptLen t
  | .step _ t => 1 + ptLen t
  | .fork _ t _ _ => 1 + ptLen t
section
variable {P : Program} {ops : Array Oper} {md : Region.Mode} {C : World → Prop} {Q : Exit → Act → World → Prop}
def wpT (P : Program) (ops : Array Oper) (C : World → Prop) (Q : Exit → Act → World → Prop) : PT → Act → World → Prop
  | .last e, a, w => wpList P ops Q (pick ops.toList [e]) a w
  | .q is t, a, w => wpQuiet P ops C (fun a' => wpT P ops C Q t a' w) (pick ops.toList is) a
  | .step e t, a, w => effStep P ops C (ops.toList.getD e default) a w (wpT P ops C Q t)
  | .fork i t j u, a, w => effStep P ops C (ops.toList.getD i default) a w (wpT P ops C Q t) ∧ effStep P ops C (ops.toList.getD j default) a w (wpT P ops C Q u)
def ptB (md : Region.Mode) (ops : Array Oper) (n : Nat) : PT → Array Bool → Bool
  | .last e, listed => decide (Region.ready md ops listed = [e]) && decide (e = n) && decide (Region.ready md ops (listed.setIfInBounds e true) = [])
  | .q is t, listed => qsB md ops n (ptB md ops n t) is listed
  | .step e t, listed => decide (Region.ready md ops listed = [e]) && decide (e < n) && ptB md ops n t (listed.setIfInBounds e true)
  | .fork i t j u, listed => decide (Region.ready md ops listed = [i, j]) && decide (i < n) && decide (j < n) && decide (ptLen t = ptLen u) && ptB md ops n t (listed.setIfInBounds i true) && ptB md ops n u (listed.setIfInBounds j true)

theorem opC_eff {n e : Nat} {a : Act} {w : World} {K : Act → World → Prop} {K' : Act → World → Prop} (he : e < n) (hel : e < ops.size) (hC : C w) (hw : effStep P ops C (ops.toList.getD e default) a w K)
    (hK : ∀ a w, C w → K a w → K' a w) : opC P ops C Q n e K' a w := by
  have ho : ops[e]? = some ops[e] := Array.getElem?_eq_getElem hel
  have hg : ops.toList.getD e default = ops[e] := by simp [ho]
  rw [hg] at hw
  unfold effStep at hw
  unfold opC
  rw [if_pos he]
  simp only [ho]
  split at hw
  · rename_i hwt
    rw [if_pos hwt]
    exact Oper.wp_imp (fun a' w' hq => ⟨hq.1, hK _ _ hq.1 hq.2⟩) (fun _ _ _ h => h) hw
  · rename_i hwt
    rw [if_neg hwt]
    exact hK _ _ hC hw

theorem wpAnyC_pt {n : Nat} (hsel : Region.noSelect ops = true) (hs : Region.sinkB md ops n = true) (hc : Region.chainB md ops n = true) (hn1 : n + 1 = ops.size) :
    ∀ (t : PT) (listed : Array Bool) (a : Act) (w : World), ptB md ops n t listed = true → HeadInv md ops n listed → C w → wpT P ops C Q t a w → wpAnyC P md ops C Q n (ptLen t) listed a w
  | .last e, listed, a, w, hB, inv, hC, hw => by
    simp only [ptB] at hB
    simp only [wpT] at hw
    simp only [Bool.and_eq_true, decide_eq_true_eq] at hB
    have hel : e < ops.size := by omega
    have ho : ops[e]? = some ops[e] := Array.getElem?_eq_getElem hel
    refine ⟨fun h0 => (by rw [hB.1.1] at h0; cases h0), fun i hi => ?_⟩
    rw [hB.1.1] at hi
    obtain rfl : i = e := by simpa using hi
    have hp : pick ops.toList [i] = [ops[i]] := by simp [pick, ho]
    rw [hp] at hw
    simp only [wpList] at hw
    unfold opC
    rw [if_neg (by omega)]
    unfold wpOp
    simp only [ho]
    split at hw
    · rename_i hwt
      rw [if_pos hwt]
      rcases hw with hw | hw
      · exact .inl (Oper.wp_imp (fun a' w' hq => ⟨hB.2, hq⟩) (fun _ _ _ h => h) hw)
      · exact .inr hw
    · rename_i hwt
      rw [if_neg hwt]
      exact ⟨hB.2, hw⟩
  | .q is t, listed, a, w, hB, inv, hC, hw => by
    simp only [ptB] at hB
    simp only [wpT] at hw
    exact wpAnyC_qs hsel hs hc hn1 hC (g := ptLen t) (fun listed a hB inv hw => wpAnyC_pt hsel hs hc hn1 t listed a w hB inv hC hw) is listed a hB inv hw
  | .step e t, listed, a, w, hB, inv, hC, hw => by
    simp only [ptB, Bool.and_eq_true, decide_eq_true_eq] at hB
    simp only [wpT] at hw
    have hel : e < ops.size := by omega
    have hre : e ∈ Region.ready md ops listed := by rw [hB.1.1]; simp
    rw [ptLen, Nat.add_comm 1]
    refine ⟨fun h0 => (by rw [hB.1.1] at h0; cases h0), fun i hi => ?_⟩
    rw [hB.1.1] at hi
    obtain rfl : i = e := by simpa using hi
    exact opC_eff hB.1.2 hel hC hw (fun a w hC hw => wpAnyC_pt hsel hs hc hn1 t _ a w hB.2 (inv.set hre hB.1.2) hC hw)
  | .fork i t j u, listed, a, w, hB, inv, hC, hw => by
    simp only [ptB, Bool.and_eq_true, decide_eq_true_eq] at hB
    simp only [wpT] at hw
    obtain ⟨⟨⟨⟨⟨hr, hi⟩, hj⟩, hl⟩, hBt⟩, hBu⟩ := hB
    rw [ptLen, Nat.add_comm 1]
    refine ⟨fun h0 => (by rw [hr] at h0; cases h0), fun k hk => ?_⟩
    have hk' := hk
    rw [hr] at hk'
    simp only [List.mem_cons, List.not_mem_nil, or_false] at hk'
    rcases hk' with rfl | rfl
    · exact opC_eff hi (by omega) hC hw.1 (fun a w hC hw => wpAnyC_pt hsel hs hc hn1 t _ a w hBt (inv.set hk hi) hC hw)
    · exact opC_eff hj (by omega) hC hw.2 (fun a w hC hw => by rw [hl]; exact wpAnyC_pt hsel hs hc hn1 u _ a w hBu (inv.set hk hj) hC hw)

theorem wp_t {id : Nat} {a : Act} {w : World} {l : List Oper} (C : World → Prop) (t : PT) (hm : P.follows .mixedOrders = true)
    (hB : (Region.noSelect l.toArray && Region.sinkB .any l.toArray (l.length - 1) && Region.chainB .any l.toArray (l.length - 1) && decide (0 < l.length) && decide (ptLen t = l.length) &&
      ptB .any l.toArray (l.length - 1) t (Array.replicate l.length false)) = true)
    (hC : C w.drew) (h : wpT P l.toArray C Q t a w.drew) : (Code.region id l.toArray true).wp P Q a w := by
  simp only [Bool.and_eq_true, decide_eq_true_eq] at hB
  obtain ⟨⟨⟨⟨⟨hsel, hs⟩, hc⟩, hl0⟩, hlen⟩, hph⟩ := hB
  have inv0 : HeadInv .any l.toArray (l.length - 1) (Array.replicate l.length false) :=
    ⟨by simp, fun j oj _ hl => (by rw [getD_replicate_false] at hl; cases hl), fun t _ ht => getD_in (by simpa using ht) (getD_replicate_false _ _)⟩
  have H := wpAnyC_pt (P := P) (md := .any) (ops := l.toArray) (C := C) (Q := Q) hsel hs hc (by simp; omega) t _ a w.drew hph inv0 hC h
  refine wp_region_any hm ?_
  have := wpAny_of_C _ _ _ _ H
  rw [hlen] at this
  simpa using this
end
theorem wp_tS {P : Program} {Q : Exit → Act → World → Prop} {id : Nat} {a : Act} {w : World} {l : List Oper} (S : Nat → Prop) (t : PT) (hm : P.follows .mixedOrders = true)
    (hB : (Region.noSelect l.toArray && Region.sinkB .any l.toArray (l.length - 1) && Region.chainB .any l.toArray (l.length - 1) && decide (0 < l.length) && decide (ptLen t = l.length) &&
      ptB .any l.toArray (l.length - 1) t (Array.replicate l.length false)) = true)
    (h : wpT P l.toArray (fun w' => ∃ p : Lat S w, w' = lat p) Q t a w.drew) : (Code.region id l.toArray true).wp P Q a w :=
  wp_t (fun w' => ∃ p : Lat S w, w' = lat p) t hm hB (Lat.mk_ (Frm.drew (Frm.refl S w))) h
end Go.Tk
