/- Contracts and plain laws, put together in one file. No condition. -/
import Derived.Test.YtekocjnmlgiceaaDoorJMaskSubsets2
import Derived.RangeFuncNested
import Derived.TacticsIn
import Derived.BigFrameIn
import Derived.Test.YtekocjnmlgiceaaDoorTie
import Derived.Lib.LaidTab
import Derived.SevenTiedAt


/- Masks: a range over Subsets. -/
namespace Go.Proofs.YtekocjnmlgiceaaDoor
open Go.RowKit Go.Tk Go.Shelf

attribute [local go_sem] Oper.semAt_some

set_option maxHeartbeats 4000000 in
theorem sub1_bad (d l b1 b2 : Nat) (n k : Int) (hb : ¬ (0 ≤ n ∧ n ≤ 64 ∧ 0 ≤ k ∧ k ≤ n)) (_hd : 1 ≤ d)
    (W : World) (hc1 : W.cell? ⟨b1, 0, none⟩ = some (.int .i64 n)) (hc2 : W.cell? ⟨b2, 0, none⟩ = some (.int .i64 k)) :
    CallsIn Fence.wide d Tryd.prog 40 #[.func (.yield l) #[] #[], .pointer (some ⟨b1, 0, none⟩), .pointer (some ⟨b2, 0, none⟩)] W fun e W' => (∃ v, e = .returned v) ∧ W' = W := by
  refine callsIn_of_wp Tryd.func40 rfl trivial ?_ rfl
  simp only [Tryd.ntmps40, List.size_toArray, List.length_cons, List.length_nil, Nat.reduceAdd, Nat.reduceSub, Array.replicate_succ, Array.replicate_zero, List.push_toArray, List.append_toArray, List.nil_append, List.cons_append]
  by_cases h1 : n < 0
  · gi_wp2
    refine bodyPost_ret (results_none rfl _ _ _) rfl ?_
    exact ⟨⟨_, rfl⟩, rfl⟩
  by_cases h2 : n > 64
  · gi_wp2
    refine bodyPost_ret (results_none rfl _ _ _) rfl ?_
    exact ⟨⟨_, rfl⟩, rfl⟩
  by_cases h3 : k < 0
  · gi_wp2
    refine bodyPost_ret (results_none rfl _ _ _) rfl ?_
    exact ⟨⟨_, rfl⟩, rfl⟩
  have h4 : k > n := by omega
  clear hb
  gi_wp2
  refine bodyPost_ret (results_none rfl _ _ _) rfl ?_
  exact ⟨⟨_, rfl⟩, rfl⟩
theorem sub1_in (d l b1 b2 : Nat) (n k : Int) (J Jx : Nat → World → Prop) (hd : 1 ≤ d) (hJd : ∀ r W, J r W → J r W.drew)
    (hY : ∀ r W, r < subM n k → J r W → YieldAt Fence.wide (d - 1) Tryd.prog l #[.int .u64 (subS n k r : Nat)] W fun e W' => (e = .returned (.bool true) ∧ J (r + 1) W') ∨ (e = .returned (.bool false) ∧ Jx r W'))
    (W : World) (hc1 : W.cell? ⟨b1, 0, none⟩ = some (.int .i64 n)) (hc2 : W.cell? ⟨b2, 0, none⟩ = some (.int .i64 k)) (h0 : J 0 W) :
    CallsIn Fence.wide d Tryd.prog 40 #[.func (.yield l) #[] #[], .pointer (some ⟨b1, 0, none⟩), .pointer (some ⟨b2, 0, none⟩)] W fun e W' => (∃ v, e = .returned v) ∧ (J (subM n k) W' ∨ ∃ r, r < subM n k ∧ Jx r W') := by
  by_cases hg : 0 ≤ n ∧ n ≤ 64 ∧ 0 ≤ k ∧ k ≤ n
  · obtain ⟨g1, g2, g3, g4⟩ := hg
    obtain ⟨N, rfl⟩ := Int.eq_ofNat_of_zero_le g1
    obtain ⟨K, rfl⟩ := Int.eq_ofNat_of_zero_le g3
    have hM : subM (N : Int) (K : Int) = chs N K := by unfold subM; rw [if_pos ⟨g1, g2, g3, g4⟩, Int.toNat_natCast, Int.toNat_natCast]
    have hS : ∀ r, subS (N : Int) (K : Int) r = unS N K r := fun r => by unfold subS; rw [Int.toNat_natCast, Int.toNat_natCast]
    rw [hM] at hY ⊢
    simp only [hS] at hY
    exact sub1_good d l b1 b2 N K (by omega) (by omega) J Jx hd hJd hY W hc1 hc2 h0
  · have hM : subM n k = 0 := by unfold subM; rw [if_neg hg]
    rw [hM]
    refine (sub1_bad d l b1 b2 n k hg hd W hc1 hc2).mono ?_
    rintro e W' ⟨hv, rfl⟩
    exact ⟨hv, .inl h0⟩

def subPost (B : Nat) (I : Nat → World → Prop) (Ix : Code → Nat → World → Prop) (r : Nat) (W : World) : Exit → Act → World → Prop
  | .normal, _, W' => KeepsFrom B W W' ∧ I (r + 1) W'
  | .ret, _, W' => KeepsFrom B W W' ∧ Ix .ret r W'
  | .exit id, _, W' => KeepsFrom B W W' ∧ Ix (.exit id) r W'
  | _, _, _ => False

set_option maxHeartbeats 2000000 in
theorem range_subs {d : Nat} (h1 : 2 ≤ d) {g : Operand} {p : Tmp} {assign body : Code} {Q : Exit → Act → World → Prop} {a : Act} {w : World} {b1 b2 : Nat} {n k : Int}
    (hg : a.eval g = .func (.func 40) #[] #[.pointer (some ⟨b1, 0, none⟩), .pointer (some ⟨b2, 0, none⟩)])
    (hc1 : Boxed w b1 3 (.int .i64 n)) (hc2 : Boxed w b2 3 (.int .i64 k))
    (I : Nat → World → Prop) (Ix : Code → Nat → World → Prop)
    (hId : ∀ r W, I r W → I r W.drew)
    (hIa : ∀ r W o, w.heap.size ≤ W.heap.size → I r W → I r (W.alloc o))
    (hIp : ∀ r W l o o', w.heap.size ≤ l → W.heap[l]? = some o' → o'.isCells = false → I r W → I r (W.putObj l o))
    (hIxp : ∀ c r W l o o', w.heap.size ≤ l → W.heap[l]? = some o' → o'.isCells = false → Ix c r W → Ix c r (W.putObj l o))
    (h0 : I 0 w) (a₁ : Nat → Act)
    (hassign : ∀ (l r : Nat) (W : World) (K : Act → World → Prop), K (a₁ r) W →
      assign.wpIn (Fence.wide.inRound l) (d - 1 - 1) Tryd.prog (Exit.then K (fun _ _ _ => False)) { tmps := a.tmps.setIfInBounds p (.int .u64 (subS n k r : Nat)), defers := [] } W)
    (hbody : ∀ (l r : Nat) (W : World), r < subM n k → I r W → w.heap.size ≤ W.heap.size → body.wpIn (Fence.wide.inRound l) (d - 1 - 1) Tryd.prog (subPost w.heap.size I Ix r W) (a₁ r) W)
    (hdone : ∀ (D : Nat) (W : World), w.heap.size ≤ D → I (subM n k) W → W.heap[D]? = some (.deferred (some [])) → Q .normal { a with defers := { target := .collected D, args := #[] } :: a.defers } W)
    (hstop : ∀ (D : Nat) (c : Code) (r : Nat) (W : World), w.heap.size ≤ D → r < subM n k → Ix c r W → W.heap[D]? = some (.deferred (some [])) → c.wpIn Fence.wide d Tryd.prog Q { a with defers := { target := .collected D, args := #[] } :: a.defers } W) :
    (Code.rangeFunc g #[p] assign body).wpIn Fence.wide d Tryd.prog Q a w := by
  refine wpIn_rangeFunc ?_
  intro fn hfn
  obtain ⟨rec, hrec⟩ : ∃ rec : LoopState → Option Code → Loop, rec = fun st pe => { state := st, pending := pe, fn, tmps := a.tmps, params := #[p], assign, body, defers := w.heap.size } := ⟨_, rfl⟩
  obtain ⟨W1, hW1⟩ : ∃ W1, (w.alloc (.deferred (some []))).alloc (.loop (rec .ready none)) = W1 := ⟨_, rfl⟩
  have hL1 : W1.heap[w.heap.size + 1]? = some (.loop (rec .ready none)) := by
    rw [← hW1]; have := World.alloc_heap_new (w.alloc (.deferred (some []))) (.loop (rec .ready none)); rwa [World.size_alloc] at this
  have hK1 : W1.heap[w.heap.size]? = some (.deferred (some [])) := by
    rw [← hW1]; exact (Below.heap_alloc _ _ _ (by simp)).trans (World.alloc_heap_new w _)
  have hI1 : I 0 W1 := by rw [← hW1]; exact hIa _ _ _ (by simp) (hIa _ _ _ (Nat.le_refl _) h0)
  have hB1 : Boxed W1 b1 3 (.int .i64 n) := by rw [← hW1]; exact (hc1.alloc _).alloc _
  have hB2 : Boxed W1 b2 3 (.int .i64 k) := by rw [← hW1]; exact (hc2.alloc _).alloc _
  have hsz1 : W1.heap.size = w.heap.size + 2 := by rw [← hW1]; simp
  refine ⟨w.heap.size + 1, [{ target := .collected w.heap.size, args := #[] }], W1, { target := .fn (.func 40) #[.pointer (some ⟨b1, 0, none⟩), .pointer (some ⟨b2, 0, none⟩)], args := #[.func (.yield (w.heap.size + 1)) #[] #[]] }, W1, 40,
    #[.func (.yield (w.heap.size + 1)) #[] #[]] ++ #[.pointer (some ⟨b1, 0, none⟩), .pointer (some ⟨b2, 0, none⟩)], W1, ?_, ?_, ?_, ?_, fun _ => by omega, ?_⟩
  · rw [← hW1, hrec]; exact run_enterLoop_outer _ _ _ _ _
  · simp only [resolve, hg]
    simp [go_sem]
  · intro f' _; exact trivial
  · simp [invoke, go_sem]
  · refine (sub1_in (d - 1) (w.heap.size + 1) b1 b2 n k
      (fun r W => I r W ∧ W.heap[w.heap.size + 1]? = some (.loop (rec .ready none)) ∧ W.heap[w.heap.size]? = some (.deferred (some [])))
      (fun r W => ∃ c, Ix c r W ∧ W.heap[w.heap.size + 1]? = some (.loop (rec .done (some c))) ∧ W.heap[w.heap.size]? = some (.deferred (some [])))
      (by omega) (fun r W h => ⟨hId _ _ h.1, h.2.1, h.2.2⟩)
      ?_ W1 hB1.cell hB2.cell ⟨hI1, hL1, hK1⟩).mono ?_
    · rintro r W hr ⟨hi, hl, hk⟩
      have hlt : w.heap.size + 1 < W.heap.size := (Array.getElem?_eq_some_iff.1 hl).1
      have hy := run_yield (P := Tryd.prog) (args := #[.int .u64 (subS n k r : Nat)]) hl (by rw [hrec]; rfl)
      rw [hrec] at hy
      have hfold : (#[p].zip #[Value.int .u64 (subS n k r : Nat)]).foldl (fun tmps (t, a) => tmps.setIfInBounds t a) a.tmps = a.tmps.setIfInBounds p (.int .u64 (subS n k r : Nat)) := by simp
      simp only [hfold] at hy
      refine ⟨fn, _, assign, body, hy, roundIn_of_wpIn hfn ?_⟩
      refine hassign _ r W _ ?_
      refine ⟨_, run_beginRound hl (by rw [hrec]), ?_⟩
      have hl2 : (W.putObj (w.heap.size + 1) (.loop { rec .ready none with state := .busy })).heap[w.heap.size + 1]? = some (.loop { rec .ready none with state := .busy }) := World.putObj_heap_same hlt
      have hk2 : (W.putObj (w.heap.size + 1) (.loop { rec .ready none with state := .busy })).heap[w.heap.size]? = some (.deferred (some [])) := (World.putObj_heap_other (by omega)).trans hk
      refine wpIn_mono (hbody _ r _ hr (hIp _ _ _ _ _ (by omega) hl rfl hi) (by simp <;> omega)) ?_
      have fin : ∀ (jump : Option Code) (W3 : World), KeepsFrom w.heap.size (W.putObj (w.heap.size + 1) (.loop { rec .ready none with state := .busy })) W3 →
          (Instr.endRound (w.heap.size + 1) jump).run Tryd.prog W3 = .ok (.bool jump.isNone) (W3.putObj (w.heap.size + 1) (.loop (rec (if jump.isNone then .ready else .done) jump))) ∧
          W3.heap[w.heap.size + 1]? = some (.loop { rec .ready none with state := .busy }) ∧
          (W3.putObj (w.heap.size + 1) (.loop (rec (if jump.isNone then .ready else .done) jump))).heap[w.heap.size + 1]? = some (.loop (rec (if jump.isNone then .ready else .done) jump)) ∧
          (W3.putObj (w.heap.size + 1) (.loop (rec (if jump.isNone then .ready else .done) jump))).heap[w.heap.size]? = some (.deferred (some [])) := fun jump W3 hk3 => by
        have hl3 := hk3.same _ _ (by omega) hl2 rfl
        have := run_endRound (P := Tryd.prog) jump hl3
        rw [hrec] at this ⊢
        exact ⟨this, by rw [hrec] at hl3; exact hl3, World.putObj_heap_same (Array.getElem?_eq_some_iff.1 hl3).1, (World.putObj_heap_other (by omega)).trans (hk3.same _ _ (Nat.le_refl _) hk2 rfl)⟩
      rintro e a3 W3 hp
      cases e with
      | normal =>
        obtain ⟨hk3, hi3⟩ := hp
        obtain ⟨hr, hl3, hl4, hk4⟩ := fin none W3 hk3
        exact ⟨_, _, hr, .inl ⟨rfl, hIp _ _ _ _ _ (by omega) hl3 rfl hi3, hl4, hk4⟩⟩
      | ret =>
        obtain ⟨hk3, hi3⟩ := hp
        obtain ⟨hr, hl3, hl4, hk4⟩ := fin (some .ret) W3 hk3
        exact ⟨_, _, hr, .inr ⟨rfl, .ret, hIxp _ _ _ _ _ _ (by omega) hl3 rfl hi3, hl4, hk4⟩⟩
      | exit id =>
        obtain ⟨hk3, hi3⟩ := hp
        obtain ⟨hr, hl3, hl4, hk4⟩ := fin (some (.exit id)) W3 hk3
        exact ⟨_, _, hr, .inr ⟨rfl, .exit id, hIxp _ _ _ _ _ _ (by omega) hl3 rfl hi3, hl4, hk4⟩⟩
      | _ => exact hp.elim
    · rintro e W2 ⟨⟨v, rfl⟩, (⟨hi, hl, hk⟩ | ⟨r, hr, c, hi, hl, hk⟩)⟩
      · exact ⟨none, _, by have := run_endLoop (P := Tryd.prog) hl (by rw [hrec]; simp); rw [hrec] at this; exact this, hdone _ _ (Nat.le_refl _) (hIp _ _ _ _ _ (by omega) hl rfl hi) ((World.putObj_heap_other (by omega)).trans hk)⟩
      · exact ⟨some c, _, by have := run_endLoop (P := Tryd.prog) hl (by rw [hrec]; simp); rw [hrec] at this; exact this, hstop _ c r _ (Nat.le_refl _) hr (hIxp _ _ _ _ _ _ (by omega) hl rfl hi) ((World.putObj_heap_other (by omega)).trans hk)⟩
end Go.Proofs.YtekocjnmlgiceaaDoor


/- Masks: sets: are two lists of sets alike? -/
namespace Go.Proofs.YtekocjnmlgiceaaDoor
open Go.RowKit Go.Tk
/-- a list of sets, wherever it lies -/
abbrev WU (w : World) (A : Option Addr) (n : Nat) (ws : List Nat) : Prop := Sl w 1 (fun x => [u8c x]) A n ws
theorem WU.at1 {w : World} {A : Option Addr} {n : Nat} {ws : List Nat} (h : WU w A n ws) {i : Nat} {x : Nat} (hi : ws[i]? = some x) : ∃ b off, A = some ⟨b, off, none⟩ ∧ b < w.heap.size ∧ w.cell? ⟨b, off + i, none⟩ = some (.int .u64 x) := by
  obtain ⟨b, off, h1, h2, h3⟩ := h.get i x hi
  refine ⟨b, off, h1, h2, ?_⟩
  have := h3 0 (by omega)
  simpa [u8c] using this
theorem mret_bool {a b : Bool} (h : a = b) : Ending.returned (.bool a) = Ending.returned (.bool b) := by rw [h]
set_option maxHeartbeats 1000000 in
theorem msets_any (A B : Option Addr) (n m C D : Nat) (xs ys : List Nat) (w : World) (h : WU w A n xs) (h2 : WU w B m ys) (hr : n * 8 ≤ 140737488351232) (hr2 : m * 8 ≤ 140737488351232) :
    Calls Tryd.prog 32 #[.slice A n C, .slice B m D] w fun e w' => e = .returned (.bool (decide (xs = ys))) ∧ Same w w' := by
  obtain rfl := h.len
  obtain rfl := h2.len
  have H := Lib.hid h
  have H2 := Lib.hid h2
  clear h h2
  by_cases hl : xs.length = ys.length
  · have hl1 : xs.length ≤ ys.length := by omega
    have hl2 : ys.length ≤ xs.length := by omega
    have hl' : ((xs.length : Int) != (ys.length : Int)) = false := by simp [hl]
    have HL := Lib.hid hl
    clear hl
    go_enter Tryd.func32, Tryd.ntmps32
    go_wp2
    go_loopw [13] (fun i wr => ∃ k : Nat, k ≤ xs.length ∧ i = .int .i64 k ∧ xs.take k = ys.take k ∧ Same w wr) (fun i _ => xs.length - (intOf i).toNat)
    case atStart => exact ⟨0, by omega, rfl, rfl, Frm.refl _ _⟩
    case round =>
      obtain ⟨k, hk, rfl, he, hs⟩ := hrel
      by_cases hlt : k < xs.length
      · obtain ⟨x, hx⟩ : ∃ x, xs[k]? = some x := ⟨_, List.getElem?_eq_getElem hlt⟩
        obtain ⟨y, hy⟩ : ∃ y, ys[k]? = some y := ⟨_, List.getElem?_eq_getElem (by omega)⟩
        obtain ⟨b, off, rfl, hb, hc⟩ := WU.at1 (Sl.same H.out hs) hx
        obtain ⟨b2, off2, rfl, hb2, hc2⟩ := WU.at1 (Sl.same H2.out hs) hy
        have hi0 : (0 : Int) ≤ k := by omega
        have hi1 : (k : Int) < xs.length := by omega
        have hi2 : (k : Int) < ys.length := by omega
        have HX := Lib.hid hx
        have HY := Lib.hid hy
        have HE := Lib.hid he
        have HS := Lib.hid hs
        clear hx hy he hs
        by_cases hxy : x = y
        · subst hxy
          have heq : ((x : Int) != (x : Int)) = false := by simp
          go_wp2
          refine wp_quiet (by kernel_rfl) (by kernel_rfl) ?_
          repeat (any_goals (first | go_big_quiet_step (fail) | quiet_step (fail)))
          refine wpQuiet_nil ?_
          rintro _ ⟨q, rfl⟩
          have HS2 := Lib.hid (HS.out.trans (more_same _ q) (fun _ _ h => h))
          go_wp2
          go_roundw
          case rel => exact ⟨k + 1, by omega, by go_num, by rw [take_snoc HX.out, take_snoc HY.out, HE.out], HS2.out⟩
          case measure => simp [intOf] <;> omega
        · have hne : ((x : Int) != (y : Int)) = true := by simp <;> omega
          have hfin : decide (xs = ys) = false := by
            rw [decide_eq_false_iff_not]
            rintro rfl
            exact hxy (Option.some.inj (HX.out.symm.trans HY.out))
          have HFIN := Lib.hid hfin
          clear hxy hfin
          go_wp2
          refine wp_quiet (by kernel_rfl) (by kernel_rfl) ?_
          repeat (any_goals (first | go_big_quiet_step (fail) | quiet_step (fail)))
          refine wpQuiet_nil ?_
          rintro _ ⟨q, rfl⟩
          have HS2 := Lib.hid (HS.out.trans (more_same _ q) (fun _ _ h => h))
          go_wp2
          go_ret
          exact ⟨mret_bool HFIN.out.symm, HS2.out⟩
      · obtain rfl : k = xs.length := by omega
        have hfin : decide (xs = ys) = true := by
          rw [decide_eq_true_iff]
          rw [List.take_of_length_le (Nat.le_refl _), List.take_of_length_le (by omega)] at he
          exact he
        have HFIN := Lib.hid hfin
        clear he hfin
        go_wp2
        go_ret
        exact ⟨mret_bool HFIN.out.symm, hs⟩
  · have hl' : ((xs.length : Int) != (ys.length : Int)) = true := by simp <;> omega
    have hfin : decide (xs = ys) = false := by
      rw [decide_eq_false_iff_not]
      rintro rfl
      exact hl rfl
    have HFIN := Lib.hid hfin
    clear hl hfin
    go_enter Tryd.func32, Tryd.ntmps32
    go_wp2
    go_ret
    exact ⟨mret_bool HFIN.out.symm, Frm.refl _ _⟩

end Go.Proofs.YtekocjnmlgiceaaDoor


/- Masks: the reference's DocSubsets. -/
namespace Go.Proofs.YtekocjnmlgiceaaDoor
open Go.RowKit Go.Tk Go.Shelf

/-- the first c sets -/
def takeS (n k : Int) (c : Nat) : List Nat := (List.range c).map (subS n k)
theorem takeS_succ (n k : Int) (c : Nat) : takeS n k (c + 1) = takeS n k c ++ [subS n k c] := by
  unfold takeS
  rw [List.range_succ, List.map_append]
  rfl
theorem takeS_len (n k : Int) (c : Nat) : (takeS n k c).length = c := by unfold takeS; simp
theorem belN_two {N : Nat} (hN : N < 64) : belN N + 1 = 2 ^ N := by
  have hp : 0 < 2 ^ N := Nat.pow_pos (by omega)
  unfold belN
  by_cases h1 : (N : Int) < 1
  · obtain rfl : N = 0 := by omega
    rfl
  · rw [if_neg h1, if_neg (by omega), Int.toNat_natCast]
    omega
def mlenOf : Value → Nat
  | .slice _ r _ => r
  | _ => 0
def NewU (w : World) (ys : List Nat) (A : Option Addr) (C : Nat) (w' : World) : Prop := OwnU w' A ys.length C ys ∧ Fresh w.heap.size A ∧ Same w w'
set_option maxHeartbeats 4000000 in
theorem docSubsets_any (n k : Int) (m : Nat) (hm : m ≤ 3000) (w : World) : Calls Tryd.prog 33 #[.int .i64 n, .int .i64 k, .int .i64 m] w fun e w' => ∃ A C, e = .returned (.slice A (min m (subM n k)) C) ∧ NewU w (takeS n k (min m (subM n k))) A C w' := by
  by_cases hg : 0 ≤ n ∧ n ≤ 64 ∧ 0 ≤ k ∧ k ≤ n
  · by_cases hm0 : m = 0
    · subst hm0
      rw [Nat.zero_min]
      obtain ⟨g1, g2, g3, g4⟩ := hg
      have n1 : ¬ n < 0 := by omega
      have n2 : ¬ n > 64 := by omega
      have n3 : ¬ k < 0 := by omega
      have n4 : ¬ k > n := by omega
      go_enter Tryd.func33, Tryd.ntmps33
      go_wp2
      go_ret
      exact ⟨none, 0, rfl, Own.nil _ _ _ _, fresh_none _, Frm.refl _ _⟩
    · obtain ⟨g1, g2, g3, g4⟩ := hg
      obtain ⟨N, rfl⟩ := Int.eq_ofNat_of_zero_le g1
      obtain ⟨K, rfl⟩ := Int.eq_ofNat_of_zero_le g3
      have hM : subM (N : Int) (K : Int) = chs N K := by unfold subM; rw [if_pos ⟨g1, g2, g3, g4⟩, Int.toNat_natCast, Int.toNat_natCast]
      have hS : ∀ r, subS (N : Int) (K : Int) r = unS N K r := fun r => by unfold subS; rw [Int.toNat_natCast, Int.toNat_natCast]
      rw [hM]
      have hKN : K ≤ N := by omega
      have hN64 : N ≤ 64 := by omega
      have hpos := chs_pos hKN
      have n1 : ¬ (N : Int) < 0 := by omega
      have n2 : ¬ (N : Int) > 64 := by omega
      have n3 : ¬ (K : Int) < 0 := by omega
      have n4 : ¬ (K : Int) > N := by omega
      have n5 : ¬ (m : Int) < 1 := by omega
      have HDB := Lib.hid (fun w => docBelow_any (K : Int) w)
      rw [belN_doc, sub_first hKN hN64] at HDB
      have HDN := Lib.hid (fun w => docBelow_any (N : Int) w)
      rw [belN_doc] at HDN
      obtain ⟨S0, hS0⟩ : ∃ z, z = unS N K 0 := ⟨_, rfl⟩
      rw [← hS0] at HDB
      have HS0 := Lib.hid hS0
      obtain ⟨B, hB⟩ : ∃ z, z = belN N := ⟨_, rfl⟩
      rw [← hB] at HDN
      have HB := Lib.hid hB
      obtain ⟨M, hMM⟩ : ∃ z, z = chs N K := ⟨_, rfl⟩
      rw [← hMM] at hpos ⊢
      have HM := Lib.hid hMM
      have HS := Lib.hid hS
      clear hM hS hS0 hB hMM
      go_enter Tryd.func33, Tryd.ntmps33
      go_wp2_with (go_at_call 15; refine (HDB.out _).mono ?_; rintro e w1 ⟨rfl, hs1⟩; have HS1 := Lib.hid hs1; clear hs1 HDB)
      go_loopw [7, 8] (fun l s wr => ∃ (r C2 : Nat) (A2 : Option Addr), r < M ∧ r < m ∧ s = .int .u64 (unS N K r : Nat) ∧ l = .slice A2 r C2 ∧ Same w wr ∧ Fresh w.heap.size A2 ∧ OwnU wr A2 r C2 (takeS N K r)) (fun l _ _ => 3000 - mlenOf l)
      case atStart => exact ⟨0, 0, none, hpos, by omega, by rw [HS0.out], rfl, HS1.out, fresh_none _, Own.nil _ _ _ _⟩
      case round =>
        clear HS1
        obtain ⟨r, C2, A2, hrM, hrm, rfl, rfl, hs, hf, ho⟩ := hrel
        have HR := Lib.hid ho
        have HF := Lib.hid hf
        have HSw := Lib.hid hs
        have hsu : unS N K r < 18446744073709551616 := sub_u64 hN64
        have HDA := Lib.hid (fun w => docAfter_any (unS N K r) hsu w)
        rw [doc_after hsu] at HDA
        have hTS := takeS_succ N K r
        rw [HS.out] at hTS
        have hend : r + 1 = M → afR (unS N K r) = 0 ∨ (N < 64 ∧ 2 ^ N ≤ afR (unS N K r)) := fun h => by
          have := sub_end hKN hN64
          rw [← HM.out, ← h, Nat.add_sub_cancel] at this
          exact this
        have hstep : r + 1 < M → afR (unS N K r) = unS N K (r + 1) ∧ unS N K r < unS N K (r + 1) := fun h => ⟨sub_step hN64 (by rw [← HM.out]; exact h), un_mono N K (by omega) (by rw [← HM.out]; exact h)⟩
        have hal : afR (unS N K r) < 18446744073709551616 := (after_rank hsu).2.2
        obtain ⟨sv, hsv⟩ : ∃ z, z = unS N K r := ⟨_, rfl⟩
        rw [← hsv] at HDA hTS hend hstep hal ⊢
        obtain ⟨af, haf⟩ : ∃ z, z = afR sv := ⟨_, rfl⟩
        rw [← haf] at HDA hend hstep hal
        have HTS := Lib.hid hTS
        have HEND := Lib.hid hend
        have HST := Lib.hid hstep
        clear hs hf ho hsu hTS hend hstep hsv haf
        go_upto_region 5 with fail
        refine wp_region_lit ?_
        refine wpList_read 2 ?_
        simp only [List.take_succ_cons, List.take_zero, List.drop_succ_cons, List.drop_zero]
        repeat (any_goals (first | go_big_quiet_step (fail) | quiet_step (fail)))
        refine wpQuiet_nil ?_
        refine wpList_plain rfl fun K hK => ?_
        go_simp
        refine hK _ _ ?_
        clear hK K
        refine list_world fun wa hwa => ?_
        have hNb := Blk.new wr 24 #[.int .u64 (sv : Nat)]
        have hsa : Same wr wa := by rw [hwa]; exact (Frm.refl _ _).alloc _
        rw [← hwa] at hNb
        clear hwa
        refine Own.append_list (f := fun x => [u8c x]) rfl (.tmp 30) (.tmp 32) _ rfl Tryd.underlying48 info_u64 rfl (by omega) rfl (Own.frm (HR.out) hsa (fun _ _ => id)) (fun _ => rfl) sv wr.heap.size 1 rfl hNb (by simp [u8c, Value.oneCell']) (by rw [takeS_len]; simp [maxLen] <;> omega) (by rw [takeS_len]; omega) ?_
        intro gg cap wb hOb hgb hat
        have HOb := Lib.hid (show OwnU wb (some ⟨gg, 0, none⟩) (r + 1) cap (takeS N K (r + 1)) by rw [HTS.out]; exact hOb)
        have HSb := Lib.hid (Same.app (HSw.out) hsa hgb (HF.out))
        have HFb := Lib.hid (fresh_app (HSw.out) hsa (HF.out) hat)
        clear hOb hgb hat hsa hNb
        by_cases hm1 : r + 1 = m
        · have e1 : ((r + 1 : Nat) : Int) = (m : Int) := by omega
          have e2 : (r : Int) + 1 = (m : Int) := by omega
          go_wp2_with (go_at_call 28; refine (HDA.out _).mono ?_; rintro e w2 ⟨rfl, hs2⟩; have HS2 := Lib.hid hs2; clear hs2)
          go_ret
          exact ⟨_, _, by rw [show min m M = m by omega]; rfl, by rw [show min m M = r + 1 by omega, takeS_len]; exact Own.frm HOb.out HS2.out (fun _ _ => id), HFb.out, HSb.out.trans HS2.out (fun _ _ h => h)⟩
        · have e1 : ¬ ((r + 1 : Nat) : Int) = (m : Int) := by omega
          have e2 : ¬ (r : Int) + 1 = (m : Int) := by omega
          have e3 : ((r : Int) + 1 == (m : Int)) = false := by simp <;> omega
          by_cases hrl : r + 1 = M
          · have hmin : min m M = r + 1 := by omega
            by_cases h0 : af = 0
            · subst h0
              go_wp2_with (go_at_call 28; refine (HDA.out _).mono ?_; rintro e w2 ⟨rfl, hs2⟩; have HS2 := Lib.hid hs2; clear hs2)
              go_ret
              exact ⟨_, _, by rw [show min m M = M by omega]; rfl, by rw [hmin, takeS_len]; exact Own.frm HOb.out HS2.out (fun _ _ => id), HFb.out, HSb.out.trans HS2.out (fun _ _ h => h)⟩
            · obtain ⟨hN, h2⟩ := (HEND.out hrl).resolve_left h0
              have hb1 := belN_two hN
              rw [← HB.out] at hb1
              rw [← hb1] at h2
              have i1 : (N : Int) < 64 := by omega
              have i2 : ¬ (af : Int) = 0 := by omega
              have i3 : ((af : Int) == 0) = false := by simp <;> omega
              have i4 : IntKind.u64.wrap ((B : Int) + 1) = ((B + 1 : Nat) : Int) := by rw [IntWalk.u64_in _ (by omega)]; omega
              have i5 : (af : Int) ≥ ((B + 1 : Nat) : Int) := by omega
              obtain ⟨B1, hB1⟩ : ∃ z, z = B + 1 := ⟨_, rfl⟩
              rw [← hB1] at i4 i5
              have i6 : B1 ≤ af := by omega
              clear hb1 h2 hB1
              go_wp2_with (first
                | (go_at_call 28; refine (HDA.out _).mono ?_; rintro e w2 ⟨rfl, hs2⟩; have HS2 := Lib.hid hs2; clear hs2)
                | (go_at_call 15; refine (HDN.out _).mono ?_; rintro e w3 ⟨rfl, hs3⟩; have HS3 := Lib.hid (HS2.out.trans hs3 (fun _ _ h => h)); clear hs3))
              go_ret
              exact ⟨_, _, by rw [show min m M = M by omega]; rfl, by rw [hmin, takeS_len]; exact Own.frm HOb.out HS3.out (fun _ _ => id), HFb.out, HSb.out.trans HS3.out (fun _ _ h => h)⟩
          · obtain ⟨h1, h2⟩ := HST.out (by omega)
            subst h1
            have i2 : ¬ ((unS N K (r + 1) : Nat) : Int) = 0 := by omega
            have hlt := unS_lt N K (r + 1)
            obtain ⟨s1, hs1⟩ : ∃ z, z = unS N K (r + 1) := ⟨_, rfl⟩
            rw [← hs1] at i2 hlt h2 HDA
            have HS1 := Lib.hid hs1
            have i3 : ((s1 : Int) == 0) = false := by simp <;> omega
            have i7 : ¬ s1 = 0 := by omega
            clear hs1
            by_cases hN : N < 64
            · have hb1 := belN_two hN
              rw [← HB.out] at hb1
              rw [← hb1] at hlt
              have i1 : (N : Int) < 64 := by omega
              have hp : 2 ^ N ≤ 2 ^ 63 := Nat.pow_le_pow_right (by omega) (by omega)
              have hbl : B + 1 ≤ 9223372036854775808 := by rw [hb1]; exact hp
              have i4 : IntKind.u64.wrap ((B : Int) + 1) = ((B + 1 : Nat) : Int) := by rw [IntWalk.u64_in _ (by omega)]; omega
              obtain ⟨B1, hB1⟩ : ∃ z, z = B + 1 := ⟨_, rfl⟩
              rw [← hB1] at i4 hlt
              have i5 : ¬ (s1 : Int) ≥ (B1 : Int) := by omega
              have i6 : ¬ B1 ≤ s1 := by omega
              clear hb1 h2 hB1 hp hbl
              go_wp2_with (first
                | (go_at_call 28; refine (HDA.out _).mono ?_; rintro e w2 ⟨rfl, hs2⟩; have HS2 := Lib.hid hs2; clear hs2)
                | (go_at_call 15; refine (HDN.out _).mono ?_; rintro e w3 ⟨rfl, hs3⟩; have HS3 := Lib.hid (HS2.out.trans hs3 (fun _ _ h => h)); clear hs3))
              go_roundw
              case rel => exact ⟨r + 1, cap, some ⟨gg, 0, none⟩, by omega, by omega, by rw [HS1.out], rfl, HSb.out.trans HS3.out (fun _ _ h => h), HFb.out, Own.frm HOb.out HS3.out (fun _ _ => id)⟩
              case measure => simp [mlenOf] <;> omega
            · have i1 : ¬ (N : Int) < 64 := by omega
              clear h2
              go_wp2_with (go_at_call 28; refine (HDA.out _).mono ?_; rintro e w2 ⟨rfl, hs2⟩; have HS2 := Lib.hid hs2; clear hs2)
              go_roundw
              case rel => exact ⟨r + 1, cap, some ⟨gg, 0, none⟩, by omega, by omega, by rw [HS1.out], rfl, HSb.out.trans HS2.out (fun _ _ h => h), HFb.out, Own.frm HOb.out HS2.out (fun _ _ => id)⟩
              case measure => simp [mlenOf] <;> omega
  · have hM : subM n k = 0 := by unfold subM; rw [if_neg hg]
    rw [hM, Nat.min_zero]
    by_cases h1 : n < 0
    · go_enter Tryd.func33, Tryd.ntmps33
      go_wp2
      go_ret
      exact ⟨none, 0, rfl, Own.nil _ _ _ _, fresh_none _, Frm.refl _ _⟩
    by_cases h2 : n > 64
    · go_enter Tryd.func33, Tryd.ntmps33
      go_wp2
      go_ret
      exact ⟨none, 0, rfl, Own.nil _ _ _ _, fresh_none _, Frm.refl _ _⟩
    by_cases h3 : k < 0
    · go_enter Tryd.func33, Tryd.ntmps33
      go_wp2
      go_ret
      exact ⟨none, 0, rfl, Own.nil _ _ _ _, fresh_none _, Frm.refl _ _⟩
    have h4 : k > n := by omega
    clear hg
    go_enter Tryd.func33, Tryd.ntmps33
    go_wp2
    go_ret
    exact ⟨none, 0, rfl, Own.nil _ _ _ _, fresh_none _, Frm.refl _ _⟩
end Go.Proofs.YtekocjnmlgiceaaDoor


/- Masks: MaskSubsets. -/
namespace Go.Proofs.YtekocjnmlgiceaaDoor
open Go.RowKit Go.Tk Go.Shelf

attribute [local go_sem] Oper.semAt_some

theorem leaves_all {d : Nat} {fn : Func} {tmps : Array Value} {R : Ending → World → Prop} {v : Value} (B : Nat) (hres : ∀ w, (results fn tmps).run Tryd.prog w = .ok v w) :
    ∀ (Ds : List Nat) (w : World), Ds.Nodup → (∀ D ∈ Ds, w.heap[D]? = some (.deferred (some [])) ∧ B ≤ D) → (∀ w', Below B w w' → R (.returned v) w') →
      LeavesInM Fence.wide d Tryd.prog fn tmps R (Ds.map fun D => ({ target := .collected D, args := #[] } : Deferred)) .returning w
  | [], w, _, _, h => ⟨v, hres w, h w (Below.refl _ _)⟩
  | D :: Ds, w, hnd, hd, h => by
    obtain ⟨n1, n2⟩ := List.nodup_cons.1 hnd
    refine ⟨by simp, .inl ⟨_, _, rfl, run_takeDeferred (hd D (List.mem_cons_self ..)).1, ?_⟩⟩
    refine leaves_all B hres Ds _ n2 (fun D' hD' => ?_) (fun w' hb => h w' ((below_putObj (Below.refl B w) (hd D (List.mem_cons_self ..)).2 _).trans hb))
    obtain ⟨g1, g2⟩ := hd D' (List.mem_cons_of_mem _ hD')
    exact ⟨(World.putObj_heap_other (by rintro rfl; exact n1 hD')).trans g1, g2⟩
structure MsW (w : World) (b1 : Nat) (n k : Int) (m : Nat) (Ds : List Nat) (W : World) : Prop where
  b : Below w.heap.size w W
  x1 : Boxed W w.heap.size 3 (.int .i64 m)
  x2 : Boxed W b1 3 (.int .i64 n)
  x3 : Boxed W (b1 + 1) 3 (.int .i64 k)
  ds : ∀ D ∈ Ds, W.heap[D]? = some (.deferred (some [])) ∧ w.heap.size ≤ D
theorem MsW.step {w W W' : World} {b1 g m : Nat} {n k : Int} {Ds : List Nat} (h : MsW w b1 n k m Ds W) (hb : Below g W W') (h1 : w.heap.size < g) (h2 : b1 + 1 < g) (h3 : ∀ D ∈ Ds, D < g) : MsW w b1 n k m Ds W' where
  b := h.b.trans (hb.mono (by omega))
  x1 := boxed_same h.x1 (hb.block _ h1)
  x2 := boxed_same h.x2 (hb.block _ (by omega))
  x3 := boxed_same h.x3 (hb.block _ h2)
  ds := fun D hD => ⟨(hb.block _ (h3 D hD)).trans (h.ds D hD).1, (h.ds D hD).2⟩
structure MsI (w : World) (b1 : Nat) (n k : Int) (m : Nat) (Ds : List Nat) (g r : Nat) (W : World) : Prop where
  ww : MsW w b1 n k m Ds W
  hr : r ≤ m
  l : ∃ v, Boxed W g 48 v ∧ W.ownsRow g 24 1 v r ((takeS n k r).map u8c)
set_option maxRecDepth 100000 in
set_option maxHeartbeats 4000000 in
theorem msub_in (n k mm : Int) (m : Nat) (hm : m ≤ 3000) (hcase : (mm ≤ 0 ∧ m = 0) ∨ (0 < mm ∧ mm ≤ 3000 ∧ mm = m) ∨ (3000 < mm ∧ m = 3000)) (w : World) (h0 : 0 < w.heap.size) (hT : Tab64 w) :
    CallsIn Fence.wide 6 Tryd.prog 9 #[.int .i64 n, .int .i64 k, .int .i64 mm] w fun e w' => e = .returned (.bool true) ∧ Below w.heap.size w w' := by
  obtain ⟨W0, hW0⟩ : ∃ W0, W0 = w.alloc (.cells #[.int .i64 mm] 3) := ⟨_, rfl⟩
  have hsz0 : W0.heap.size = w.heap.size + 1 := by rw [hW0]; simp
  have hb0 : Below w.heap.size w W0 := by rw [hW0]; exact (Below.refl _ w).alloc (Nat.le_refl _) _
  have hx1 : Boxed W0 w.heap.size 3 (.int .i64 mm) := by rw [hW0]; exact Boxed.new w _ _
  have HX1 := Lib.hid (fun w' (hs : Same W0 w') => boxed_same hx1 (hs.block _ hx1.lt (fun h => h)))
  have HAW := Lib.hid (callsIn_wide (n := 5).2 (awake_any W0 (by omega) (tab64_below hb0 h0 hT)))
  have HB0 := Lib.hid hb0
  have HSZ := Lib.hid hsz0
  clear hb0 hsz0 hx1
  refine callsIn_of_wp_marks Tryd.func9 rfl trivial ?_ rfl
  simp only [Tryd.ntmps9, List.size_toArray, List.length_cons, List.length_nil, Nat.reduceAdd, Nat.reduceSub, Array.replicate_succ, Array.replicate_zero, List.push_toArray, List.append_toArray, List.nil_append, List.cons_append]
  gi_wp2_with (fail)
  refine ⟨trivial, ?_⟩
  rw [← hW0]
  refine HAW.out.mono ?_
  rintro e w1 ⟨rfl, hs1⟩
  have y1 := HX1.out _ hs1
  have c1 := y1.cell
  have f1 := y1.frozen
  have HY1 := Lib.hid y1
  have HF1 := Lib.hid (HB0.out.trans (hs1.to_below (by rw [HSZ.out]; omega) (fun _ _ h => h)))
  have HZ1 := Lib.hid (show w.heap.size + 1 ≤ w1.heap.size by have := hs1.size; rw [HSZ.out] at this; exact this)
  clear hs1 HAW y1
  have HCS := Lib.hid (fun w => callsIn_wide (n := 5).2 (subsets_any n k w))
  rcases hcase with ⟨h1, hm0⟩ | ⟨h1, h2, rfl⟩ | ⟨h1, hm0⟩
  · have HM0 := Lib.hid hm0
    clear hm0
    have h2 : ¬ (3000 : Int) < mm := by omega
    have h3 : mm ≤ 3000 := by omega
    have h4 : ¬ (0 : Int) < mm := by omega
    gi_wp2_with (fail)
    have X := HY1.out.set (.int .i64 (m : Nat))
    have XB := HF1.out.setCell (p := ⟨w.heap.size, 0, none⟩) (Nat.le_refl _) (.int .i64 (m : Nat))
    have XZ : w.heap.size + 1 ≤ (w1.setCell ⟨w.heap.size, 0, none⟩ (.int .i64 (m : Nat))).heap.size := by rw [World.size_setCell]; exact HZ1.out
    refine ⟨trivial, ?_⟩
    obtain ⟨w3, hw3⟩ : ∃ z, z = w1.setCell ⟨w.heap.size, 0, none⟩ (.int .i64 (m : Nat)) := ⟨_, rfl⟩
    rw [← hw3] at X XB XZ
    rw [show (w1.setCell ⟨w.heap.size, 0, none⟩ (.int .i64 0)) = w3 from by rw [hw3, HM0.out]; rfl]
    refine (HCS.out w3).mono ?_
    rintro e w4 ⟨rfl, hw4⟩
    have hMW : MsW w w3.heap.size n k m [] w4 := by
      have y2 := (Boxed.new w3 3 (.int .i64 n)).alloc (.cells #[.int .i64 k] 3)
      have y3 := Boxed.new (w3.alloc (.cells #[.int .i64 n] 3)) 3 (.int .i64 k)
      rw [World.size_alloc] at y3
      rw [hw4]
      exact ⟨(XB.alloc XB.size _).alloc (by have := XB.size; simp <;> omega) _, (X.alloc _).alloc _, y2, y3, fun D hD => by cases hD⟩
    have hw4s : w4.heap.size = w3.heap.size + 1 + 1 := by rw [hw4]; simp
    have HMW := Lib.hid hMW
    have HW4 := Lib.hid (show w.heap.size + 1 ≤ w3.heap.size ∧ w3.heap.size + 1 < w4.heap.size from ⟨XZ, by omega⟩)
    clear hw3 hw4 hw4s X XB XZ c1 f1 HY1 HF1 HZ1 HCS hMW
    obtain ⟨b1, hb1⟩ : ∃ z, z = w3.heap.size := ⟨_, rfl⟩
    rw [← hb1] at HMW HW4 ⊢
    clear hb1
    have hnf : ∀ W, (binOp .eql 46 (.func (.func 40) #[] #[.pointer (some ⟨b1, 0, none⟩), .pointer (some ⟨b1 + 1, 0, none⟩)]) .nilFunc).run Tryd.prog W = .ok (.bool false) W := fun _ => rfl
    gi_wp2_with (fail)
    refine wpIn_loop (fun a W => ∃ (i : Nat) (Ds : List Nat) (z2 z3 z4 z8 z9 z10 z11 z12 z13 z14 z15 z16 z17 z18 z19 z21 z22 z23 z24 z25 z26 z27 z28 z29 z30 z31 z32 z33 z34 z35 z36 z37 z38 z39 : Value), a = { tmps := #[.int .i64 n, .int .i64 k, z2, z3, z4, .pointer (some ⟨w.heap.size, 0, none⟩), .bool false, .func (.func 40) #[] #[.pointer (some ⟨b1, 0, none⟩), .pointer (some ⟨b1 + 1, 0, none⟩)], z8, z9, z10, z11, z12, z13, z14, z15, z16, z17, z18, z19, .int .i64 i, z21, z22, z23, z24, z25, z26, z27, z28, z29, z30, z31, z32, z33, z34, z35, z36, z37, z38, z39], defers := Ds.map fun D => ({ target := .collected D, args := #[] } : Deferred) } ∧ i ≤ 2 ∧ Ds.Nodup ∧ (∀ D ∈ Ds, D < W.heap.size) ∧ b1 + 1 < W.heap.size ∧ w.heap.size < b1 ∧ MsW w b1 n k m Ds W) (fun a _ => 2 - (intOf (a.tmps.getD 20 undef)).toNat) ?_ ?_
    · exact ⟨0, [], _, _, _, _, _, _, _, _, _, _, _, _, _, _, _, _, _, _, _, _, _, _, _, _, _, _, _, _, _, _, _, _, _, _, rfl, by omega, List.nodup_nil, (fun D hD => by cases hD), HW4.out.2, by have := HW4.out.1; omega, HMW.out⟩
    · clear HMW HW4
      rintro a W ⟨i, Ds, z2, z3, z4, z8, z9, z10, z11, z12, z13, z14, z15, z16, z17, z18, z19, z21, z22, z23, z24, z25, z26, z27, z28, z29, z30, z31, z32, z33, z34, z35, z36, z37, z38, z39, rfl, hi, hnd, hdl, hbw, hwb, hms⟩
      have HND := Lib.hid hnd
      have HDL := Lib.hid hdl
      have HMS := Lib.hid hms
      clear hnd hdl hms
      by_cases hi2 : i < 2
      · have hi3 : (i : Int) < 2 := by omega
        have HMU := Lib.hid (show 1 - i < 2 - i by omega)
        have HI5 := Lib.hid (show (i : Int) + 1 = ((i + 1 : Nat) : Int) by omega)
        have HIW := Lib.hid (show wrap64 ((i : Int) + 1) = ((i + 1 : Nat) : Int) by unfold wrap64; omega)
        gi_wp2_with (fail)
        have hx2 := HMS.out.x2.alloc (.cells #[.slice none 0 0] 48)
        have hx3 := HMS.out.x3.alloc (.cells #[.slice none 0 0] 48)
        have hg1 : w.heap.size < W.heap.size := by omega
        have hszA : (W.alloc (.cells #[.slice none 0 0] 48)).heap.size = W.heap.size + 1 := by simp
        apply range_subs (d := 6) (b1 := b1) (b2 := b1 + 1) (n := n) (k := k) (by omega) rfl hx2 hx3 (MsI w b1 n k m Ds W.heap.size) (fun c r W' => c = .exit 2 ∧ r = m ∧ MsI w b1 n k m Ds W.heap.size r W')
        case hassign =>
          intro l r W' K' hK
          simp only [List.setIfInBounds_toArray, List.set_cons_succ, List.set_cons_zero]
          gi_wp2
          exact hK
        case hId => exact fun r W' h => ⟨h.ww.step ((Below.refl W.heap.size W').drew) hg1 hbw HDL.out, h.hr, h.l⟩
        case hIa =>
          intro r W' o hW h
          obtain ⟨v, h1, h2⟩ := h.l
          exact ⟨h.ww.step ((Below.refl W.heap.size W').alloc (by omega) o) hg1 hbw HDL.out, h.hr, v, h1.alloc o, h2.alloc o⟩
        case hIp =>
          intro r W' l o o' hl hl' hc h
          obtain ⟨v, h1, h2⟩ := h.l
          exact ⟨h.ww.step (below_putObj (Below.refl W.heap.size W') (by omega) o) hg1 hbw HDL.out, h.hr, v, boxed_putObj h1 (by omega) o, ownsRow_putObj h2 o hl' hc⟩
        case hIxp =>
          rintro c r W' l o o' hl hl' hc ⟨rfl, rfl, h⟩
          obtain ⟨v, h1, h2⟩ := h.l
          exact ⟨rfl, rfl, h.ww.step (below_putObj (Below.refl W.heap.size W') (by omega) o) hg1 hbw HDL.out, h.hr, v, boxed_putObj h1 (by omega) o, ownsRow_putObj h2 o hl' hc⟩
        case h0 =>
          exact ⟨HMS.out.step ((Below.refl W.heap.size W).alloc (Nat.le_refl _) _) hg1 hbw HDL.out, Nat.zero_le _, _, Boxed.new W _ _, by simpa [takeS] using World.ownsRow_nil _ _ _ _⟩
        case hbody =>
          intro l r W5 hr h hW
          obtain ⟨hww, hrm, v, hv, hrow⟩ := h
          have hsh : ∃ A C, v = .slice A r C := by
            rcases hrow.2 with ⟨rfl, h⟩ | ⟨g, cap, cur, rfl, _⟩
            · exact ⟨none, 0, by rw [h]⟩
            · exact ⟨_, _, rfl⟩
          obtain ⟨A5, C5, rfl⟩ := hsh
          have hc8 := hv.cell
          have hc5 := hww.x1.cell
          have hgl : W.heap.size + 1 ≤ W5.heap.size := hv.lt
          by_cases hlt : r < m
          · have hlt1 : ¬ m ≤ r := by omega
            have hlt2 : ¬ (r : Int) ≥ (m : Nat) := by omega
            have hTS := takeS_succ n k r
            obtain ⟨sv, hsv⟩ : ∃ z, z = subS n k r := ⟨_, rfl⟩
            rw [← hsv] at hTS ⊢
            have HTS := Lib.hid hTS
            have h3a := hrow.alloc (.cells #[u8c sv] 24)
            have hl1 : r + 1 ≤ maxLen := Nat.le_trans (by omega : r + 1 ≤ 3001) (by decide)
            have hl2 : (r + 1) * 8 ≤ 140737488355328 := by omega
            have HWW := Lib.hid hww
            have HLT := Lib.hid hlt
            have HRW := Lib.hid hrow
            have HV := Lib.hid hv
            have HSZ5 := Lib.hid (show W.heap.size ≤ W5.heap.size by omega)
            have hund : Tryd.prog.underlying 48 = some (.slice 24) := Tryd.underlying48
            obtain ⟨i0, hii, hz0, hz1, hz2⟩ := info_parts info_u64
            clear hsv hTS hww hr hrm hW
            simp only [Nat.reduceSub]
            gi_wp2_with (first
              | (gi_at_builtin; refine wpListIn_append_own _ rfl _ _ 48 rfl W.heap.size 24 i0 (.int .u64 0) 1 8 hund hii hz0 hz1 hz2 rfl (by decide) _ _ _ rfl h3a ⟨W5.heap.size, 0, none⟩ 1 1 [u8c sv] rfl rfl (cell_one_new _ _ _) (by simp [Value.oneCell', u8c]) hl1 hl2 (by rw [World.size_alloc]; exact Nat.le_succ_of_le HSZ5.out) ?_; intro v' w3 hown' hg3 hnil3
                 obtain ⟨hv1, hv2, hv3, hv4, hv5⟩ := Boxed.appended HV.out (by decide) HRW.out HSZ5.out (Nat.le_refl _) hown' hg3
                 obtain ⟨g', cap', rfl⟩ := ownsRow_succ hown'
                 have hc3 := hv1.cell
                 have hf3 := hv1.frozen
                 go_frame))
            refine ⟨hv4.from _, HWW.out.step hv5 hg1 hbw HDL.out, Nat.succ_le_of_lt HLT.out, _, hv2, ?_⟩
            rw [HTS.out, List.map_append]
            exact hv3
          · have hre : r = m := by omega
            have HRE := Lib.hid hre
            have hlt1 : m ≤ r := by omega
            have hlt2 : (r : Int) ≥ (m : Nat) := by omega
            have HI := Lib.hid (show MsI w b1 n k m Ds W.heap.size r W5 from ⟨hww, hrm, _, hv, hrow⟩)
            clear hre hww hrm hr hrow hW hlt
            simp only [Nat.reduceSub]
            gi_wp2
            exact ⟨(KeepsOthers.refl W5).from _, rfl, HRE.out, HI.out⟩
        case hdone =>
          intro D W5 hD h hK
          have hmin : min m (subM n k) = subM n k := Nat.min_eq_right h.hr
          obtain ⟨R, hR⟩ : ∃ z, z = subM n k := ⟨_, rfl⟩
          rw [← hR] at h hmin
          have hc5 := h.ww.x1.cell
          obtain ⟨v5, hx5, ho5⟩ := h.l
          have hsh : ∃ A C, v5 = .slice A R C := by
            rcases ho5.2 with ⟨rfl, h⟩ | ⟨g, cap, cur, rfl, _⟩
            · exact ⟨none, 0, by rw [h]⟩
            · exact ⟨_, _, rfl⟩
          obtain ⟨A5, C5, rfl⟩ := hsh
          have hc8 := hx5.cell
          have hwl : WU W5 A5 R (takeS n k R) := Own.sl (fun _ => rfl) (show OwnU W5 A5 R C5 (takeS n k R) from by
            refine ⟨(takeS_len _ _ _).symm, ?_⟩
            have e1 : (takeS n k R).flatMap (fun x => [u8c x]) = (takeS n k R).map u8c := by
              induction takeS n k R with
              | nil => rfl
              | cons x l ih => simp only [List.flatMap_cons, List.map_cons, ih]; rfl
            rw [e1]
            refine ⟨ho5.1, ?_⟩
            rcases ho5.2 with h2 | ⟨g, cap, cur, h3, _, h4⟩
            · exact .inl h2
            · exact .inr ⟨g, cap, cur, h3, Nat.zero_le _, h4⟩)
          have hR3 : R ≤ 3000 := Nat.le_trans h.hr hm
          have HH := Lib.hid h
          have HWL := Lib.hid hwl
          have HX5 := Lib.hid (fun w' (hs : Same W5 w') => (boxed_same hx5 (hs.block _ hx5.lt (fun h => h))).cell)
          have HX6 := Lib.hid (fun w' (hs : Same W5 w') => (boxed_same h.ww.x1 (hs.block _ h.ww.x1.lt (fun h => h))).cell)
          have hgl : W.heap.size + 1 ≤ W5.heap.size := hx5.lt
          have HDS := Lib.hid (fun w => docSubsets_any n k m hm w)
          rw [← hR, hmin] at HDS
          have HRR := Lib.hid hR
          clear hR hmin
          clear h hx5 ho5 hwl
          simp only [Exit.inBlock, Exit.then]
          gi_wp2
          refine wpIn_wide.2 ?_
          obtain ⟨S, hS⟩ : ∃ S : Nat → Prop, S = fun _ => False := ⟨_, rfl⟩
          have hl1 : W.heap.size < W5.heap.size := hgl
          have hl2 : w.heap.size < W5.heap.size := by omega
          have hn1 : ¬ S W.heap.size := by rw [hS]; exact fun h => h
          have hn2 : ¬ S w.heap.size := by rw [hS]; exact fun h => h
          refine wp_phS S [([0, 1, 2, 3], 4), ([], 5), ([], 6)] (by kernel_rfl) (by kernel_rfl) ?_
          simp only [wpPh, pick, List.map_cons, List.map_nil, List.getD_cons_zero, List.getD_cons_succ]
          repeat (any_goals (first | go_big_quiet_step (fail) | quiet_step (fail)))
          refine wpQuiet_nil ?_
          refine effStep_plain rfl fun K hK => ?_
          go_simp
          refine (HDS.out _).mono ?_
          rintro e w6 ⟨A6, C6, rfl, hN6, hF6, hs6⟩
          have hs56 : Same W5 w6 := ((Frm.refl _ W5).drew).trans hs6 (fun _ _ h => h)
          rw [takeS_len] at hN6
          have HSS := Lib.hid (msets_any A5 A6 R R C5 C6 _ _ w6 (Sl.same HWL.out hs56) (Own.sl (fun _ => rfl) hN6) (by omega) (by omega))
          rw [decide_eq_true rfl] at HSS
          refine hK _ _ (Lat.mk_ (by rw [hS]; exact hs56)) ?_
          have HS56 := Lib.hid hs56
          clear hK K hs6 hs56 hN6 hF6
          refine wpQuiet_nil ?_
          refine effStep_plain rfl fun K hK => ?_
          go_simp
          refine HSS.out.mono ?_
          rintro e w7 ⟨rfl, hs7⟩
          have hs57 : Same W5 w7 := HS56.out.trans hs7 (fun _ _ h => h)
          refine hK _ _ (Lat.mk_ (by rw [hS]; exact hs57)) ?_
          have HS7 := Lib.hid hs57
          clear hK K hs7 hs57
          refine wpQuiet_nil ?_
          go_wp2
          have hDl : D < W5.heap.size := (Array.getElem?_eq_some_iff.1 hK).1
          have hms2 : MsW w b1 n k m (D :: Ds) w7 := MsW.step (g := W5.heap.size) (⟨HH.out.ww.b, HH.out.ww.x1, HH.out.ww.x2, HH.out.ww.x3, fun D' hD' => by
            rcases List.mem_cons.1 hD' with rfl | hD'
            · exact ⟨hK, by omega⟩
            · exact HH.out.ww.ds D' hD'⟩ : MsW w b1 n k m (D :: Ds) W5) (HS7.out.to_below (Nat.le_refl _) (fun _ _ h => h)) hl2 (by omega) (fun D' hD' => by
            rcases List.mem_cons.1 hD' with rfl | hD'
            · exact hDl
            · have := HDL.out D' hD'; omega)
          have HMS2 := Lib.hid hms2
          have HS7S := Lib.hid HS7.out.size
          clear hms2
          gi_wp2
          first | rw [HI5.out] | rw [HIW.out]
          refine ⟨⟨i + 1, D :: Ds, _, _, _, _, _, _, _, _, _, _, _, _, _, _, _, _, _, _, _, _, _, _, _, _, _, _, _, _, _, _, _, _, _, _, rfl, Nat.succ_le_of_lt hi2, List.nodup_cons.2 ⟨fun hD' => by have := HDL.out D hD'; omega, HND.out⟩, (fun D' hD' => by
            have h7 := HS7S.out
            rcases List.mem_cons.1 hD' with rfl | hD'
            · omega
            · have := HDL.out D' hD'; omega), by have h7 := HS7S.out; omega, hwb, HMS2.out⟩, ?_⟩
          simp [intOf]
          exact HMU.out
        case hstop =>
          rintro D c R W5 hD hr ⟨rfl, hrm, h⟩ hK
          have hmin : min m (subM n k) = R := by omega
          clear hrm
          refine wpIn_exit ?_
          have hc5 := h.ww.x1.cell
          obtain ⟨v5, hx5, ho5⟩ := h.l
          have hsh : ∃ A C, v5 = .slice A R C := by
            rcases ho5.2 with ⟨rfl, h⟩ | ⟨g, cap, cur, rfl, _⟩
            · exact ⟨none, 0, by rw [h]⟩
            · exact ⟨_, _, rfl⟩
          obtain ⟨A5, C5, rfl⟩ := hsh
          have hc8 := hx5.cell
          have hwl : WU W5 A5 R (takeS n k R) := Own.sl (fun _ => rfl) (show OwnU W5 A5 R C5 (takeS n k R) from by
            refine ⟨(takeS_len _ _ _).symm, ?_⟩
            have e1 : (takeS n k R).flatMap (fun x => [u8c x]) = (takeS n k R).map u8c := by
              induction takeS n k R with
              | nil => rfl
              | cons x l ih => simp only [List.flatMap_cons, List.map_cons, ih]; rfl
            rw [e1]
            refine ⟨ho5.1, ?_⟩
            rcases ho5.2 with h2 | ⟨g, cap, cur, h3, _, h4⟩
            · exact .inl h2
            · exact .inr ⟨g, cap, cur, h3, Nat.zero_le _, h4⟩)
          have hR3 : R ≤ 3000 := Nat.le_trans h.hr hm
          have HH := Lib.hid h
          have HWL := Lib.hid hwl
          have HX5 := Lib.hid (fun w' (hs : Same W5 w') => (boxed_same hx5 (hs.block _ hx5.lt (fun h => h))).cell)
          have HX6 := Lib.hid (fun w' (hs : Same W5 w') => (boxed_same h.ww.x1 (hs.block _ h.ww.x1.lt (fun h => h))).cell)
          have hgl : W.heap.size + 1 ≤ W5.heap.size := hx5.lt
          have HDS := Lib.hid (fun w => docSubsets_any n k m hm w)
          rw [hmin] at HDS
          clear hmin
          clear h hx5 ho5 hwl
          simp only [Exit.inBlock, Exit.then, if_true]
          gi_wp2
          refine wpIn_wide.2 ?_
          obtain ⟨S, hS⟩ : ∃ S : Nat → Prop, S = fun _ => False := ⟨_, rfl⟩
          have hl1 : W.heap.size < W5.heap.size := hgl
          have hl2 : w.heap.size < W5.heap.size := by omega
          have hn1 : ¬ S W.heap.size := by rw [hS]; exact fun h => h
          have hn2 : ¬ S w.heap.size := by rw [hS]; exact fun h => h
          refine wp_phS S [([0, 1, 2, 3], 4), ([], 5), ([], 6)] (by kernel_rfl) (by kernel_rfl) ?_
          simp only [wpPh, pick, List.map_cons, List.map_nil, List.getD_cons_zero, List.getD_cons_succ]
          repeat (any_goals (first | go_big_quiet_step (fail) | quiet_step (fail)))
          refine wpQuiet_nil ?_
          refine effStep_plain rfl fun K hK => ?_
          go_simp
          refine (HDS.out _).mono ?_
          rintro e w6 ⟨A6, C6, rfl, hN6, hF6, hs6⟩
          have hs56 : Same W5 w6 := ((Frm.refl _ W5).drew).trans hs6 (fun _ _ h => h)
          rw [takeS_len] at hN6
          have HSS := Lib.hid (msets_any A5 A6 R R C5 C6 _ _ w6 (Sl.same HWL.out hs56) (Own.sl (fun _ => rfl) hN6) (by omega) (by omega))
          rw [decide_eq_true rfl] at HSS
          refine hK _ _ (Lat.mk_ (by rw [hS]; exact hs56)) ?_
          have HS56 := Lib.hid hs56
          clear hK K hs6 hs56 hN6 hF6
          refine wpQuiet_nil ?_
          refine effStep_plain rfl fun K hK => ?_
          go_simp
          refine HSS.out.mono ?_
          rintro e w7 ⟨rfl, hs7⟩
          have hs57 : Same W5 w7 := HS56.out.trans hs7 (fun _ _ h => h)
          refine hK _ _ (Lat.mk_ (by rw [hS]; exact hs57)) ?_
          have HS7 := Lib.hid hs57
          clear hK K hs7 hs57
          refine wpQuiet_nil ?_
          go_wp2
          have hDl : D < W5.heap.size := (Array.getElem?_eq_some_iff.1 hK).1
          have hms2 : MsW w b1 n k m (D :: Ds) w7 := MsW.step (g := W5.heap.size) (⟨HH.out.ww.b, HH.out.ww.x1, HH.out.ww.x2, HH.out.ww.x3, fun D' hD' => by
            rcases List.mem_cons.1 hD' with rfl | hD'
            · exact ⟨hK, by omega⟩
            · exact HH.out.ww.ds D' hD'⟩ : MsW w b1 n k m (D :: Ds) W5) (HS7.out.to_below (Nat.le_refl _) (fun _ _ h => h)) hl2 (by omega) (fun D' hD' => by
            rcases List.mem_cons.1 hD' with rfl | hD'
            · exact hDl
            · have := HDL.out D' hD'; omega)
          have HMS2 := Lib.hid hms2
          have HS7S := Lib.hid HS7.out.size
          clear hms2
          gi_wp2
          first | rw [HI5.out] | rw [HIW.out]
          refine ⟨⟨i + 1, D :: Ds, _, _, _, _, _, _, _, _, _, _, _, _, _, _, _, _, _, _, _, _, _, _, _, _, _, _, _, _, _, _, _, _, _, _, rfl, Nat.succ_le_of_lt hi2, List.nodup_cons.2 ⟨fun hD' => by have := HDL.out D hD'; omega, HND.out⟩, (fun D' hD' => by
            have h7 := HS7S.out
            rcases List.mem_cons.1 hD' with rfl | hD'
            · omega
            · have := HDL.out D' hD'; omega), by have h7 := HS7S.out; omega, hwb, HMS2.out⟩, ?_⟩
          simp [intOf]
          exact HMU.out
      · obtain rfl : i = 2 := by omega
        have hi3 : ¬ ((2 : Nat) : Int) < 2 := by omega
        gi_wp2
        exact leaves_all w.heap.size (fun _ => results_tmp rfl _ _ _) Ds W HND.out HMS.out.ds (fun w' hb => ⟨rfl, HMS.out.b.trans hb⟩)
  · have h3 : ¬ (3000 : Int) < m := by omega
    have h4 : 0 < m := by omega
    gi_wp2_with (fail)
    have X := HY1.out.set (.int .i64 (m : Nat))
    have XB := HF1.out.setCell (p := ⟨w.heap.size, 0, none⟩) (Nat.le_refl _) (.int .i64 (m : Nat))
    have XZ : w.heap.size + 1 ≤ (w1.setCell ⟨w.heap.size, 0, none⟩ (.int .i64 (m : Nat))).heap.size := by rw [World.size_setCell]; exact HZ1.out
    refine ⟨trivial, ?_⟩
    obtain ⟨w3, hw3⟩ : ∃ z, z = w1.setCell ⟨w.heap.size, 0, none⟩ (.int .i64 (m : Nat)) := ⟨_, rfl⟩
    rw [← hw3] at X XB XZ
    rw [← hw3]
    refine (HCS.out w3).mono ?_
    rintro e w4 ⟨rfl, hw4⟩
    have hMW : MsW w w3.heap.size n k m [] w4 := by
      have y2 := (Boxed.new w3 3 (.int .i64 n)).alloc (.cells #[.int .i64 k] 3)
      have y3 := Boxed.new (w3.alloc (.cells #[.int .i64 n] 3)) 3 (.int .i64 k)
      rw [World.size_alloc] at y3
      rw [hw4]
      exact ⟨(XB.alloc XB.size _).alloc (by have := XB.size; simp <;> omega) _, (X.alloc _).alloc _, y2, y3, fun D hD => by cases hD⟩
    have hw4s : w4.heap.size = w3.heap.size + 1 + 1 := by rw [hw4]; simp
    have HMW := Lib.hid hMW
    have HW4 := Lib.hid (show w.heap.size + 1 ≤ w3.heap.size ∧ w3.heap.size + 1 < w4.heap.size from ⟨XZ, by omega⟩)
    clear hw3 hw4 hw4s X XB XZ c1 f1 HY1 HF1 HZ1 HCS hMW
    obtain ⟨b1, hb1⟩ : ∃ z, z = w3.heap.size := ⟨_, rfl⟩
    rw [← hb1] at HMW HW4 ⊢
    clear hb1
    have hnf : ∀ W, (binOp .eql 46 (.func (.func 40) #[] #[.pointer (some ⟨b1, 0, none⟩), .pointer (some ⟨b1 + 1, 0, none⟩)]) .nilFunc).run Tryd.prog W = .ok (.bool false) W := fun _ => rfl
    gi_wp2_with (fail)
    refine wpIn_loop (fun a W => ∃ (i : Nat) (Ds : List Nat) (z2 z3 z4 z8 z9 z10 z11 z12 z13 z14 z15 z16 z17 z18 z19 z21 z22 z23 z24 z25 z26 z27 z28 z29 z30 z31 z32 z33 z34 z35 z36 z37 z38 z39 : Value), a = { tmps := #[.int .i64 n, .int .i64 k, z2, z3, z4, .pointer (some ⟨w.heap.size, 0, none⟩), .bool false, .func (.func 40) #[] #[.pointer (some ⟨b1, 0, none⟩), .pointer (some ⟨b1 + 1, 0, none⟩)], z8, z9, z10, z11, z12, z13, z14, z15, z16, z17, z18, z19, .int .i64 i, z21, z22, z23, z24, z25, z26, z27, z28, z29, z30, z31, z32, z33, z34, z35, z36, z37, z38, z39], defers := Ds.map fun D => ({ target := .collected D, args := #[] } : Deferred) } ∧ i ≤ 2 ∧ Ds.Nodup ∧ (∀ D ∈ Ds, D < W.heap.size) ∧ b1 + 1 < W.heap.size ∧ w.heap.size < b1 ∧ MsW w b1 n k m Ds W) (fun a _ => 2 - (intOf (a.tmps.getD 20 undef)).toNat) ?_ ?_
    · exact ⟨0, [], _, _, _, _, _, _, _, _, _, _, _, _, _, _, _, _, _, _, _, _, _, _, _, _, _, _, _, _, _, _, _, _, _, _, rfl, by omega, List.nodup_nil, (fun D hD => by cases hD), HW4.out.2, by have := HW4.out.1; omega, HMW.out⟩
    · clear HMW HW4
      rintro a W ⟨i, Ds, z2, z3, z4, z8, z9, z10, z11, z12, z13, z14, z15, z16, z17, z18, z19, z21, z22, z23, z24, z25, z26, z27, z28, z29, z30, z31, z32, z33, z34, z35, z36, z37, z38, z39, rfl, hi, hnd, hdl, hbw, hwb, hms⟩
      have HND := Lib.hid hnd
      have HDL := Lib.hid hdl
      have HMS := Lib.hid hms
      clear hnd hdl hms
      by_cases hi2 : i < 2
      · have hi3 : (i : Int) < 2 := by omega
        have HMU := Lib.hid (show 1 - i < 2 - i by omega)
        have HI5 := Lib.hid (show (i : Int) + 1 = ((i + 1 : Nat) : Int) by omega)
        have HIW := Lib.hid (show wrap64 ((i : Int) + 1) = ((i + 1 : Nat) : Int) by unfold wrap64; omega)
        gi_wp2_with (fail)
        have hx2 := HMS.out.x2.alloc (.cells #[.slice none 0 0] 48)
        have hx3 := HMS.out.x3.alloc (.cells #[.slice none 0 0] 48)
        have hg1 : w.heap.size < W.heap.size := by omega
        have hszA : (W.alloc (.cells #[.slice none 0 0] 48)).heap.size = W.heap.size + 1 := by simp
        apply range_subs (d := 6) (b1 := b1) (b2 := b1 + 1) (n := n) (k := k) (by omega) rfl hx2 hx3 (MsI w b1 n k m Ds W.heap.size) (fun c r W' => c = .exit 2 ∧ r = m ∧ MsI w b1 n k m Ds W.heap.size r W')
        case hassign =>
          intro l r W' K' hK
          simp only [List.setIfInBounds_toArray, List.set_cons_succ, List.set_cons_zero]
          gi_wp2
          exact hK
        case hId => exact fun r W' h => ⟨h.ww.step ((Below.refl W.heap.size W').drew) hg1 hbw HDL.out, h.hr, h.l⟩
        case hIa =>
          intro r W' o hW h
          obtain ⟨v, h1, h2⟩ := h.l
          exact ⟨h.ww.step ((Below.refl W.heap.size W').alloc (by omega) o) hg1 hbw HDL.out, h.hr, v, h1.alloc o, h2.alloc o⟩
        case hIp =>
          intro r W' l o o' hl hl' hc h
          obtain ⟨v, h1, h2⟩ := h.l
          exact ⟨h.ww.step (below_putObj (Below.refl W.heap.size W') (by omega) o) hg1 hbw HDL.out, h.hr, v, boxed_putObj h1 (by omega) o, ownsRow_putObj h2 o hl' hc⟩
        case hIxp =>
          rintro c r W' l o o' hl hl' hc ⟨rfl, rfl, h⟩
          obtain ⟨v, h1, h2⟩ := h.l
          exact ⟨rfl, rfl, h.ww.step (below_putObj (Below.refl W.heap.size W') (by omega) o) hg1 hbw HDL.out, h.hr, v, boxed_putObj h1 (by omega) o, ownsRow_putObj h2 o hl' hc⟩
        case h0 =>
          exact ⟨HMS.out.step ((Below.refl W.heap.size W).alloc (Nat.le_refl _) _) hg1 hbw HDL.out, Nat.zero_le _, _, Boxed.new W _ _, by simpa [takeS] using World.ownsRow_nil _ _ _ _⟩
        case hbody =>
          intro l r W5 hr h hW
          obtain ⟨hww, hrm, v, hv, hrow⟩ := h
          have hsh : ∃ A C, v = .slice A r C := by
            rcases hrow.2 with ⟨rfl, h⟩ | ⟨g, cap, cur, rfl, _⟩
            · exact ⟨none, 0, by rw [h]⟩
            · exact ⟨_, _, rfl⟩
          obtain ⟨A5, C5, rfl⟩ := hsh
          have hc8 := hv.cell
          have hc5 := hww.x1.cell
          have hgl : W.heap.size + 1 ≤ W5.heap.size := hv.lt
          by_cases hlt : r < m
          · have hlt1 : ¬ m ≤ r := by omega
            have hlt2 : ¬ (r : Int) ≥ (m : Nat) := by omega
            have hTS := takeS_succ n k r
            obtain ⟨sv, hsv⟩ : ∃ z, z = subS n k r := ⟨_, rfl⟩
            rw [← hsv] at hTS ⊢
            have HTS := Lib.hid hTS
            have h3a := hrow.alloc (.cells #[u8c sv] 24)
            have hl1 : r + 1 ≤ maxLen := Nat.le_trans (by omega : r + 1 ≤ 3001) (by decide)
            have hl2 : (r + 1) * 8 ≤ 140737488355328 := by omega
            have HWW := Lib.hid hww
            have HLT := Lib.hid hlt
            have HRW := Lib.hid hrow
            have HV := Lib.hid hv
            have HSZ5 := Lib.hid (show W.heap.size ≤ W5.heap.size by omega)
            have hund : Tryd.prog.underlying 48 = some (.slice 24) := Tryd.underlying48
            obtain ⟨i0, hii, hz0, hz1, hz2⟩ := info_parts info_u64
            clear hsv hTS hww hr hrm hW
            simp only [Nat.reduceSub]
            gi_wp2_with (first
              | (gi_at_builtin; refine wpListIn_append_own _ rfl _ _ 48 rfl W.heap.size 24 i0 (.int .u64 0) 1 8 hund hii hz0 hz1 hz2 rfl (by decide) _ _ _ rfl h3a ⟨W5.heap.size, 0, none⟩ 1 1 [u8c sv] rfl rfl (cell_one_new _ _ _) (by simp [Value.oneCell', u8c]) hl1 hl2 (by rw [World.size_alloc]; exact Nat.le_succ_of_le HSZ5.out) ?_; intro v' w3 hown' hg3 hnil3
                 obtain ⟨hv1, hv2, hv3, hv4, hv5⟩ := Boxed.appended HV.out (by decide) HRW.out HSZ5.out (Nat.le_refl _) hown' hg3
                 obtain ⟨g', cap', rfl⟩ := ownsRow_succ hown'
                 have hc3 := hv1.cell
                 have hf3 := hv1.frozen
                 go_frame))
            refine ⟨hv4.from _, HWW.out.step hv5 hg1 hbw HDL.out, Nat.succ_le_of_lt HLT.out, _, hv2, ?_⟩
            rw [HTS.out, List.map_append]
            exact hv3
          · have hre : r = m := by omega
            have HRE := Lib.hid hre
            have hlt1 : m ≤ r := by omega
            have hlt2 : (r : Int) ≥ (m : Nat) := by omega
            have HI := Lib.hid (show MsI w b1 n k m Ds W.heap.size r W5 from ⟨hww, hrm, _, hv, hrow⟩)
            clear hre hww hrm hr hrow hW hlt
            simp only [Nat.reduceSub]
            gi_wp2
            exact ⟨(KeepsOthers.refl W5).from _, rfl, HRE.out, HI.out⟩
        case hdone =>
          intro D W5 hD h hK
          have hmin : min m (subM n k) = subM n k := Nat.min_eq_right h.hr
          obtain ⟨R, hR⟩ : ∃ z, z = subM n k := ⟨_, rfl⟩
          rw [← hR] at h hmin
          have hc5 := h.ww.x1.cell
          obtain ⟨v5, hx5, ho5⟩ := h.l
          have hsh : ∃ A C, v5 = .slice A R C := by
            rcases ho5.2 with ⟨rfl, h⟩ | ⟨g, cap, cur, rfl, _⟩
            · exact ⟨none, 0, by rw [h]⟩
            · exact ⟨_, _, rfl⟩
          obtain ⟨A5, C5, rfl⟩ := hsh
          have hc8 := hx5.cell
          have hwl : WU W5 A5 R (takeS n k R) := Own.sl (fun _ => rfl) (show OwnU W5 A5 R C5 (takeS n k R) from by
            refine ⟨(takeS_len _ _ _).symm, ?_⟩
            have e1 : (takeS n k R).flatMap (fun x => [u8c x]) = (takeS n k R).map u8c := by
              induction takeS n k R with
              | nil => rfl
              | cons x l ih => simp only [List.flatMap_cons, List.map_cons, ih]; rfl
            rw [e1]
            refine ⟨ho5.1, ?_⟩
            rcases ho5.2 with h2 | ⟨g, cap, cur, h3, _, h4⟩
            · exact .inl h2
            · exact .inr ⟨g, cap, cur, h3, Nat.zero_le _, h4⟩)
          have hR3 : R ≤ 3000 := Nat.le_trans h.hr hm
          have HH := Lib.hid h
          have HWL := Lib.hid hwl
          have HX5 := Lib.hid (fun w' (hs : Same W5 w') => (boxed_same hx5 (hs.block _ hx5.lt (fun h => h))).cell)
          have HX6 := Lib.hid (fun w' (hs : Same W5 w') => (boxed_same h.ww.x1 (hs.block _ h.ww.x1.lt (fun h => h))).cell)
          have hgl : W.heap.size + 1 ≤ W5.heap.size := hx5.lt
          have HDS := Lib.hid (fun w => docSubsets_any n k m hm w)
          rw [← hR, hmin] at HDS
          have HRR := Lib.hid hR
          clear hR hmin
          clear h hx5 ho5 hwl
          simp only [Exit.inBlock, Exit.then]
          gi_wp2
          refine wpIn_wide.2 ?_
          obtain ⟨S, hS⟩ : ∃ S : Nat → Prop, S = fun _ => False := ⟨_, rfl⟩
          have hl1 : W.heap.size < W5.heap.size := hgl
          have hl2 : w.heap.size < W5.heap.size := by omega
          have hn1 : ¬ S W.heap.size := by rw [hS]; exact fun h => h
          have hn2 : ¬ S w.heap.size := by rw [hS]; exact fun h => h
          refine wp_phS S [([0, 1, 2, 3], 4), ([], 5), ([], 6)] (by kernel_rfl) (by kernel_rfl) ?_
          simp only [wpPh, pick, List.map_cons, List.map_nil, List.getD_cons_zero, List.getD_cons_succ]
          repeat (any_goals (first | go_big_quiet_step (fail) | quiet_step (fail)))
          refine wpQuiet_nil ?_
          refine effStep_plain rfl fun K hK => ?_
          go_simp
          refine (HDS.out _).mono ?_
          rintro e w6 ⟨A6, C6, rfl, hN6, hF6, hs6⟩
          have hs56 : Same W5 w6 := ((Frm.refl _ W5).drew).trans hs6 (fun _ _ h => h)
          rw [takeS_len] at hN6
          have HSS := Lib.hid (msets_any A5 A6 R R C5 C6 _ _ w6 (Sl.same HWL.out hs56) (Own.sl (fun _ => rfl) hN6) (by omega) (by omega))
          rw [decide_eq_true rfl] at HSS
          refine hK _ _ (Lat.mk_ (by rw [hS]; exact hs56)) ?_
          have HS56 := Lib.hid hs56
          clear hK K hs6 hs56 hN6 hF6
          refine wpQuiet_nil ?_
          refine effStep_plain rfl fun K hK => ?_
          go_simp
          refine HSS.out.mono ?_
          rintro e w7 ⟨rfl, hs7⟩
          have hs57 : Same W5 w7 := HS56.out.trans hs7 (fun _ _ h => h)
          refine hK _ _ (Lat.mk_ (by rw [hS]; exact hs57)) ?_
          have HS7 := Lib.hid hs57
          clear hK K hs7 hs57
          refine wpQuiet_nil ?_
          go_wp2
          have hDl : D < W5.heap.size := (Array.getElem?_eq_some_iff.1 hK).1
          have hms2 : MsW w b1 n k m (D :: Ds) w7 := MsW.step (g := W5.heap.size) (⟨HH.out.ww.b, HH.out.ww.x1, HH.out.ww.x2, HH.out.ww.x3, fun D' hD' => by
            rcases List.mem_cons.1 hD' with rfl | hD'
            · exact ⟨hK, by omega⟩
            · exact HH.out.ww.ds D' hD'⟩ : MsW w b1 n k m (D :: Ds) W5) (HS7.out.to_below (Nat.le_refl _) (fun _ _ h => h)) hl2 (by omega) (fun D' hD' => by
            rcases List.mem_cons.1 hD' with rfl | hD'
            · exact hDl
            · have := HDL.out D' hD'; omega)
          have HMS2 := Lib.hid hms2
          have HS7S := Lib.hid HS7.out.size
          clear hms2
          gi_wp2
          first | rw [HI5.out] | rw [HIW.out]
          refine ⟨⟨i + 1, D :: Ds, _, _, _, _, _, _, _, _, _, _, _, _, _, _, _, _, _, _, _, _, _, _, _, _, _, _, _, _, _, _, _, _, _, _, rfl, Nat.succ_le_of_lt hi2, List.nodup_cons.2 ⟨fun hD' => by have := HDL.out D hD'; omega, HND.out⟩, (fun D' hD' => by
            have h7 := HS7S.out
            rcases List.mem_cons.1 hD' with rfl | hD'
            · omega
            · have := HDL.out D' hD'; omega), by have h7 := HS7S.out; omega, hwb, HMS2.out⟩, ?_⟩
          simp [intOf]
          exact HMU.out
        case hstop =>
          rintro D c R W5 hD hr ⟨rfl, hrm, h⟩ hK
          have hmin : min m (subM n k) = R := by omega
          clear hrm
          refine wpIn_exit ?_
          have hc5 := h.ww.x1.cell
          obtain ⟨v5, hx5, ho5⟩ := h.l
          have hsh : ∃ A C, v5 = .slice A R C := by
            rcases ho5.2 with ⟨rfl, h⟩ | ⟨g, cap, cur, rfl, _⟩
            · exact ⟨none, 0, by rw [h]⟩
            · exact ⟨_, _, rfl⟩
          obtain ⟨A5, C5, rfl⟩ := hsh
          have hc8 := hx5.cell
          have hwl : WU W5 A5 R (takeS n k R) := Own.sl (fun _ => rfl) (show OwnU W5 A5 R C5 (takeS n k R) from by
            refine ⟨(takeS_len _ _ _).symm, ?_⟩
            have e1 : (takeS n k R).flatMap (fun x => [u8c x]) = (takeS n k R).map u8c := by
              induction takeS n k R with
              | nil => rfl
              | cons x l ih => simp only [List.flatMap_cons, List.map_cons, ih]; rfl
            rw [e1]
            refine ⟨ho5.1, ?_⟩
            rcases ho5.2 with h2 | ⟨g, cap, cur, h3, _, h4⟩
            · exact .inl h2
            · exact .inr ⟨g, cap, cur, h3, Nat.zero_le _, h4⟩)
          have hR3 : R ≤ 3000 := Nat.le_trans h.hr hm
          have HH := Lib.hid h
          have HWL := Lib.hid hwl
          have HX5 := Lib.hid (fun w' (hs : Same W5 w') => (boxed_same hx5 (hs.block _ hx5.lt (fun h => h))).cell)
          have HX6 := Lib.hid (fun w' (hs : Same W5 w') => (boxed_same h.ww.x1 (hs.block _ h.ww.x1.lt (fun h => h))).cell)
          have hgl : W.heap.size + 1 ≤ W5.heap.size := hx5.lt
          have HDS := Lib.hid (fun w => docSubsets_any n k m hm w)
          rw [hmin] at HDS
          clear hmin
          clear h hx5 ho5 hwl
          simp only [Exit.inBlock, Exit.then, if_true]
          gi_wp2
          refine wpIn_wide.2 ?_
          obtain ⟨S, hS⟩ : ∃ S : Nat → Prop, S = fun _ => False := ⟨_, rfl⟩
          have hl1 : W.heap.size < W5.heap.size := hgl
          have hl2 : w.heap.size < W5.heap.size := by omega
          have hn1 : ¬ S W.heap.size := by rw [hS]; exact fun h => h
          have hn2 : ¬ S w.heap.size := by rw [hS]; exact fun h => h
          refine wp_phS S [([0, 1, 2, 3], 4), ([], 5), ([], 6)] (by kernel_rfl) (by kernel_rfl) ?_
          simp only [wpPh, pick, List.map_cons, List.map_nil, List.getD_cons_zero, List.getD_cons_succ]
          repeat (any_goals (first | go_big_quiet_step (fail) | quiet_step (fail)))
          refine wpQuiet_nil ?_
          refine effStep_plain rfl fun K hK => ?_
          go_simp
          refine (HDS.out _).mono ?_
          rintro e w6 ⟨A6, C6, rfl, hN6, hF6, hs6⟩
          have hs56 : Same W5 w6 := ((Frm.refl _ W5).drew).trans hs6 (fun _ _ h => h)
          rw [takeS_len] at hN6
          have HSS := Lib.hid (msets_any A5 A6 R R C5 C6 _ _ w6 (Sl.same HWL.out hs56) (Own.sl (fun _ => rfl) hN6) (by omega) (by omega))
          rw [decide_eq_true rfl] at HSS
          refine hK _ _ (Lat.mk_ (by rw [hS]; exact hs56)) ?_
          have HS56 := Lib.hid hs56
          clear hK K hs6 hs56 hN6 hF6
          refine wpQuiet_nil ?_
          refine effStep_plain rfl fun K hK => ?_
          go_simp
          refine HSS.out.mono ?_
          rintro e w7 ⟨rfl, hs7⟩
          have hs57 : Same W5 w7 := HS56.out.trans hs7 (fun _ _ h => h)
          refine hK _ _ (Lat.mk_ (by rw [hS]; exact hs57)) ?_
          have HS7 := Lib.hid hs57
          clear hK K hs7 hs57
          refine wpQuiet_nil ?_
          go_wp2
          have hDl : D < W5.heap.size := (Array.getElem?_eq_some_iff.1 hK).1
          have hms2 : MsW w b1 n k m (D :: Ds) w7 := MsW.step (g := W5.heap.size) (⟨HH.out.ww.b, HH.out.ww.x1, HH.out.ww.x2, HH.out.ww.x3, fun D' hD' => by
            rcases List.mem_cons.1 hD' with rfl | hD'
            · exact ⟨hK, by omega⟩
            · exact HH.out.ww.ds D' hD'⟩ : MsW w b1 n k m (D :: Ds) W5) (HS7.out.to_below (Nat.le_refl _) (fun _ _ h => h)) hl2 (by omega) (fun D' hD' => by
            rcases List.mem_cons.1 hD' with rfl | hD'
            · exact hDl
            · have := HDL.out D' hD'; omega)
          have HMS2 := Lib.hid hms2
          have HS7S := Lib.hid HS7.out.size
          clear hms2
          gi_wp2
          first | rw [HI5.out] | rw [HIW.out]
          refine ⟨⟨i + 1, D :: Ds, _, _, _, _, _, _, _, _, _, _, _, _, _, _, _, _, _, _, _, _, _, _, _, _, _, _, _, _, _, _, _, _, _, _, rfl, Nat.succ_le_of_lt hi2, List.nodup_cons.2 ⟨fun hD' => by have := HDL.out D hD'; omega, HND.out⟩, (fun D' hD' => by
            have h7 := HS7S.out
            rcases List.mem_cons.1 hD' with rfl | hD'
            · omega
            · have := HDL.out D' hD'; omega), by have h7 := HS7S.out; omega, hwb, HMS2.out⟩, ?_⟩
          simp [intOf]
          exact HMU.out
      · obtain rfl : i = 2 := by omega
        have hi3 : ¬ ((2 : Nat) : Int) < 2 := by omega
        gi_wp2
        exact leaves_all w.heap.size (fun _ => results_tmp rfl _ _ _) Ds W HND.out HMS.out.ds (fun w' hb => ⟨rfl, HMS.out.b.trans hb⟩)
  · have HM0 := Lib.hid hm0
    clear hm0
    have h2 : ¬ mm ≤ 3000 := by omega
    gi_wp2_with (fail)
    have X := HY1.out.set (.int .i64 (m : Nat))
    have XB := HF1.out.setCell (p := ⟨w.heap.size, 0, none⟩) (Nat.le_refl _) (.int .i64 (m : Nat))
    have XZ : w.heap.size + 1 ≤ (w1.setCell ⟨w.heap.size, 0, none⟩ (.int .i64 (m : Nat))).heap.size := by rw [World.size_setCell]; exact HZ1.out
    refine ⟨trivial, ?_⟩
    obtain ⟨w3, hw3⟩ : ∃ z, z = w1.setCell ⟨w.heap.size, 0, none⟩ (.int .i64 (m : Nat)) := ⟨_, rfl⟩
    rw [← hw3] at X XB XZ
    rw [show (w1.setCell ⟨w.heap.size, 0, none⟩ (.int .i64 3000)) = w3 from by rw [hw3, HM0.out]; rfl]
    refine (HCS.out w3).mono ?_
    rintro e w4 ⟨rfl, hw4⟩
    have hMW : MsW w w3.heap.size n k m [] w4 := by
      have y2 := (Boxed.new w3 3 (.int .i64 n)).alloc (.cells #[.int .i64 k] 3)
      have y3 := Boxed.new (w3.alloc (.cells #[.int .i64 n] 3)) 3 (.int .i64 k)
      rw [World.size_alloc] at y3
      rw [hw4]
      exact ⟨(XB.alloc XB.size _).alloc (by have := XB.size; simp <;> omega) _, (X.alloc _).alloc _, y2, y3, fun D hD => by cases hD⟩
    have hw4s : w4.heap.size = w3.heap.size + 1 + 1 := by rw [hw4]; simp
    have HMW := Lib.hid hMW
    have HW4 := Lib.hid (show w.heap.size + 1 ≤ w3.heap.size ∧ w3.heap.size + 1 < w4.heap.size from ⟨XZ, by omega⟩)
    clear hw3 hw4 hw4s X XB XZ c1 f1 HY1 HF1 HZ1 HCS hMW
    obtain ⟨b1, hb1⟩ : ∃ z, z = w3.heap.size := ⟨_, rfl⟩
    rw [← hb1] at HMW HW4 ⊢
    clear hb1
    have hnf : ∀ W, (binOp .eql 46 (.func (.func 40) #[] #[.pointer (some ⟨b1, 0, none⟩), .pointer (some ⟨b1 + 1, 0, none⟩)]) .nilFunc).run Tryd.prog W = .ok (.bool false) W := fun _ => rfl
    gi_wp2_with (fail)
    refine wpIn_loop (fun a W => ∃ (i : Nat) (Ds : List Nat) (z2 z3 z4 z8 z9 z10 z11 z12 z13 z14 z15 z16 z17 z18 z19 z21 z22 z23 z24 z25 z26 z27 z28 z29 z30 z31 z32 z33 z34 z35 z36 z37 z38 z39 : Value), a = { tmps := #[.int .i64 n, .int .i64 k, z2, z3, z4, .pointer (some ⟨w.heap.size, 0, none⟩), .bool false, .func (.func 40) #[] #[.pointer (some ⟨b1, 0, none⟩), .pointer (some ⟨b1 + 1, 0, none⟩)], z8, z9, z10, z11, z12, z13, z14, z15, z16, z17, z18, z19, .int .i64 i, z21, z22, z23, z24, z25, z26, z27, z28, z29, z30, z31, z32, z33, z34, z35, z36, z37, z38, z39], defers := Ds.map fun D => ({ target := .collected D, args := #[] } : Deferred) } ∧ i ≤ 2 ∧ Ds.Nodup ∧ (∀ D ∈ Ds, D < W.heap.size) ∧ b1 + 1 < W.heap.size ∧ w.heap.size < b1 ∧ MsW w b1 n k m Ds W) (fun a _ => 2 - (intOf (a.tmps.getD 20 undef)).toNat) ?_ ?_
    · exact ⟨0, [], _, _, _, _, _, _, _, _, _, _, _, _, _, _, _, _, _, _, _, _, _, _, _, _, _, _, _, _, _, _, _, _, _, _, rfl, by omega, List.nodup_nil, (fun D hD => by cases hD), HW4.out.2, by have := HW4.out.1; omega, HMW.out⟩
    · clear HMW HW4
      rintro a W ⟨i, Ds, z2, z3, z4, z8, z9, z10, z11, z12, z13, z14, z15, z16, z17, z18, z19, z21, z22, z23, z24, z25, z26, z27, z28, z29, z30, z31, z32, z33, z34, z35, z36, z37, z38, z39, rfl, hi, hnd, hdl, hbw, hwb, hms⟩
      have HND := Lib.hid hnd
      have HDL := Lib.hid hdl
      have HMS := Lib.hid hms
      clear hnd hdl hms
      by_cases hi2 : i < 2
      · have hi3 : (i : Int) < 2 := by omega
        have HMU := Lib.hid (show 1 - i < 2 - i by omega)
        have HI5 := Lib.hid (show (i : Int) + 1 = ((i + 1 : Nat) : Int) by omega)
        have HIW := Lib.hid (show wrap64 ((i : Int) + 1) = ((i + 1 : Nat) : Int) by unfold wrap64; omega)
        gi_wp2_with (fail)
        have hx2 := HMS.out.x2.alloc (.cells #[.slice none 0 0] 48)
        have hx3 := HMS.out.x3.alloc (.cells #[.slice none 0 0] 48)
        have hg1 : w.heap.size < W.heap.size := by omega
        have hszA : (W.alloc (.cells #[.slice none 0 0] 48)).heap.size = W.heap.size + 1 := by simp
        apply range_subs (d := 6) (b1 := b1) (b2 := b1 + 1) (n := n) (k := k) (by omega) rfl hx2 hx3 (MsI w b1 n k m Ds W.heap.size) (fun c r W' => c = .exit 2 ∧ r = m ∧ MsI w b1 n k m Ds W.heap.size r W')
        case hassign =>
          intro l r W' K' hK
          simp only [List.setIfInBounds_toArray, List.set_cons_succ, List.set_cons_zero]
          gi_wp2
          exact hK
        case hId => exact fun r W' h => ⟨h.ww.step ((Below.refl W.heap.size W').drew) hg1 hbw HDL.out, h.hr, h.l⟩
        case hIa =>
          intro r W' o hW h
          obtain ⟨v, h1, h2⟩ := h.l
          exact ⟨h.ww.step ((Below.refl W.heap.size W').alloc (by omega) o) hg1 hbw HDL.out, h.hr, v, h1.alloc o, h2.alloc o⟩
        case hIp =>
          intro r W' l o o' hl hl' hc h
          obtain ⟨v, h1, h2⟩ := h.l
          exact ⟨h.ww.step (below_putObj (Below.refl W.heap.size W') (by omega) o) hg1 hbw HDL.out, h.hr, v, boxed_putObj h1 (by omega) o, ownsRow_putObj h2 o hl' hc⟩
        case hIxp =>
          rintro c r W' l o o' hl hl' hc ⟨rfl, rfl, h⟩
          obtain ⟨v, h1, h2⟩ := h.l
          exact ⟨rfl, rfl, h.ww.step (below_putObj (Below.refl W.heap.size W') (by omega) o) hg1 hbw HDL.out, h.hr, v, boxed_putObj h1 (by omega) o, ownsRow_putObj h2 o hl' hc⟩
        case h0 =>
          exact ⟨HMS.out.step ((Below.refl W.heap.size W).alloc (Nat.le_refl _) _) hg1 hbw HDL.out, Nat.zero_le _, _, Boxed.new W _ _, by simpa [takeS] using World.ownsRow_nil _ _ _ _⟩
        case hbody =>
          intro l r W5 hr h hW
          obtain ⟨hww, hrm, v, hv, hrow⟩ := h
          have hsh : ∃ A C, v = .slice A r C := by
            rcases hrow.2 with ⟨rfl, h⟩ | ⟨g, cap, cur, rfl, _⟩
            · exact ⟨none, 0, by rw [h]⟩
            · exact ⟨_, _, rfl⟩
          obtain ⟨A5, C5, rfl⟩ := hsh
          have hc8 := hv.cell
          have hc5 := hww.x1.cell
          have hgl : W.heap.size + 1 ≤ W5.heap.size := hv.lt
          by_cases hlt : r < m
          · have hlt1 : ¬ m ≤ r := by omega
            have hlt2 : ¬ (r : Int) ≥ (m : Nat) := by omega
            have hTS := takeS_succ n k r
            obtain ⟨sv, hsv⟩ : ∃ z, z = subS n k r := ⟨_, rfl⟩
            rw [← hsv] at hTS ⊢
            have HTS := Lib.hid hTS
            have h3a := hrow.alloc (.cells #[u8c sv] 24)
            have hl1 : r + 1 ≤ maxLen := Nat.le_trans (by omega : r + 1 ≤ 3001) (by decide)
            have hl2 : (r + 1) * 8 ≤ 140737488355328 := by omega
            have HWW := Lib.hid hww
            have HLT := Lib.hid hlt
            have HRW := Lib.hid hrow
            have HV := Lib.hid hv
            have HSZ5 := Lib.hid (show W.heap.size ≤ W5.heap.size by omega)
            have hund : Tryd.prog.underlying 48 = some (.slice 24) := Tryd.underlying48
            obtain ⟨i0, hii, hz0, hz1, hz2⟩ := info_parts info_u64
            clear hsv hTS hww hr hrm hW
            simp only [Nat.reduceSub]
            gi_wp2_with (first
              | (gi_at_builtin; refine wpListIn_append_own _ rfl _ _ 48 rfl W.heap.size 24 i0 (.int .u64 0) 1 8 hund hii hz0 hz1 hz2 rfl (by decide) _ _ _ rfl h3a ⟨W5.heap.size, 0, none⟩ 1 1 [u8c sv] rfl rfl (cell_one_new _ _ _) (by simp [Value.oneCell', u8c]) hl1 hl2 (by rw [World.size_alloc]; exact Nat.le_succ_of_le HSZ5.out) ?_; intro v' w3 hown' hg3 hnil3
                 obtain ⟨hv1, hv2, hv3, hv4, hv5⟩ := Boxed.appended HV.out (by decide) HRW.out HSZ5.out (Nat.le_refl _) hown' hg3
                 obtain ⟨g', cap', rfl⟩ := ownsRow_succ hown'
                 have hc3 := hv1.cell
                 have hf3 := hv1.frozen
                 go_frame))
            refine ⟨hv4.from _, HWW.out.step hv5 hg1 hbw HDL.out, Nat.succ_le_of_lt HLT.out, _, hv2, ?_⟩
            rw [HTS.out, List.map_append]
            exact hv3
          · have hre : r = m := by omega
            have HRE := Lib.hid hre
            have hlt1 : m ≤ r := by omega
            have hlt2 : (r : Int) ≥ (m : Nat) := by omega
            have HI := Lib.hid (show MsI w b1 n k m Ds W.heap.size r W5 from ⟨hww, hrm, _, hv, hrow⟩)
            clear hre hww hrm hr hrow hW hlt
            simp only [Nat.reduceSub]
            gi_wp2
            exact ⟨(KeepsOthers.refl W5).from _, rfl, HRE.out, HI.out⟩
        case hdone =>
          intro D W5 hD h hK
          have hmin : min m (subM n k) = subM n k := Nat.min_eq_right h.hr
          obtain ⟨R, hR⟩ : ∃ z, z = subM n k := ⟨_, rfl⟩
          rw [← hR] at h hmin
          have hc5 := h.ww.x1.cell
          obtain ⟨v5, hx5, ho5⟩ := h.l
          have hsh : ∃ A C, v5 = .slice A R C := by
            rcases ho5.2 with ⟨rfl, h⟩ | ⟨g, cap, cur, rfl, _⟩
            · exact ⟨none, 0, by rw [h]⟩
            · exact ⟨_, _, rfl⟩
          obtain ⟨A5, C5, rfl⟩ := hsh
          have hc8 := hx5.cell
          have hwl : WU W5 A5 R (takeS n k R) := Own.sl (fun _ => rfl) (show OwnU W5 A5 R C5 (takeS n k R) from by
            refine ⟨(takeS_len _ _ _).symm, ?_⟩
            have e1 : (takeS n k R).flatMap (fun x => [u8c x]) = (takeS n k R).map u8c := by
              induction takeS n k R with
              | nil => rfl
              | cons x l ih => simp only [List.flatMap_cons, List.map_cons, ih]; rfl
            rw [e1]
            refine ⟨ho5.1, ?_⟩
            rcases ho5.2 with h2 | ⟨g, cap, cur, h3, _, h4⟩
            · exact .inl h2
            · exact .inr ⟨g, cap, cur, h3, Nat.zero_le _, h4⟩)
          have hR3 : R ≤ 3000 := Nat.le_trans h.hr hm
          have HH := Lib.hid h
          have HWL := Lib.hid hwl
          have HX5 := Lib.hid (fun w' (hs : Same W5 w') => (boxed_same hx5 (hs.block _ hx5.lt (fun h => h))).cell)
          have HX6 := Lib.hid (fun w' (hs : Same W5 w') => (boxed_same h.ww.x1 (hs.block _ h.ww.x1.lt (fun h => h))).cell)
          have hgl : W.heap.size + 1 ≤ W5.heap.size := hx5.lt
          have HDS := Lib.hid (fun w => docSubsets_any n k m hm w)
          rw [← hR, hmin] at HDS
          have HRR := Lib.hid hR
          clear hR hmin
          clear h hx5 ho5 hwl
          simp only [Exit.inBlock, Exit.then]
          gi_wp2
          refine wpIn_wide.2 ?_
          obtain ⟨S, hS⟩ : ∃ S : Nat → Prop, S = fun _ => False := ⟨_, rfl⟩
          have hl1 : W.heap.size < W5.heap.size := hgl
          have hl2 : w.heap.size < W5.heap.size := by omega
          have hn1 : ¬ S W.heap.size := by rw [hS]; exact fun h => h
          have hn2 : ¬ S w.heap.size := by rw [hS]; exact fun h => h
          refine wp_phS S [([0, 1, 2, 3], 4), ([], 5), ([], 6)] (by kernel_rfl) (by kernel_rfl) ?_
          simp only [wpPh, pick, List.map_cons, List.map_nil, List.getD_cons_zero, List.getD_cons_succ]
          repeat (any_goals (first | go_big_quiet_step (fail) | quiet_step (fail)))
          refine wpQuiet_nil ?_
          refine effStep_plain rfl fun K hK => ?_
          go_simp
          refine (HDS.out _).mono ?_
          rintro e w6 ⟨A6, C6, rfl, hN6, hF6, hs6⟩
          have hs56 : Same W5 w6 := ((Frm.refl _ W5).drew).trans hs6 (fun _ _ h => h)
          rw [takeS_len] at hN6
          have HSS := Lib.hid (msets_any A5 A6 R R C5 C6 _ _ w6 (Sl.same HWL.out hs56) (Own.sl (fun _ => rfl) hN6) (by omega) (by omega))
          rw [decide_eq_true rfl] at HSS
          refine hK _ _ (Lat.mk_ (by rw [hS]; exact hs56)) ?_
          have HS56 := Lib.hid hs56
          clear hK K hs6 hs56 hN6 hF6
          refine wpQuiet_nil ?_
          refine effStep_plain rfl fun K hK => ?_
          go_simp
          refine HSS.out.mono ?_
          rintro e w7 ⟨rfl, hs7⟩
          have hs57 : Same W5 w7 := HS56.out.trans hs7 (fun _ _ h => h)
          refine hK _ _ (Lat.mk_ (by rw [hS]; exact hs57)) ?_
          have HS7 := Lib.hid hs57
          clear hK K hs7 hs57
          refine wpQuiet_nil ?_
          go_wp2
          have hDl : D < W5.heap.size := (Array.getElem?_eq_some_iff.1 hK).1
          have hms2 : MsW w b1 n k m (D :: Ds) w7 := MsW.step (g := W5.heap.size) (⟨HH.out.ww.b, HH.out.ww.x1, HH.out.ww.x2, HH.out.ww.x3, fun D' hD' => by
            rcases List.mem_cons.1 hD' with rfl | hD'
            · exact ⟨hK, by omega⟩
            · exact HH.out.ww.ds D' hD'⟩ : MsW w b1 n k m (D :: Ds) W5) (HS7.out.to_below (Nat.le_refl _) (fun _ _ h => h)) hl2 (by omega) (fun D' hD' => by
            rcases List.mem_cons.1 hD' with rfl | hD'
            · exact hDl
            · have := HDL.out D' hD'; omega)
          have HMS2 := Lib.hid hms2
          have HS7S := Lib.hid HS7.out.size
          clear hms2
          gi_wp2
          first | rw [HI5.out] | rw [HIW.out]
          refine ⟨⟨i + 1, D :: Ds, _, _, _, _, _, _, _, _, _, _, _, _, _, _, _, _, _, _, _, _, _, _, _, _, _, _, _, _, _, _, _, _, _, _, rfl, Nat.succ_le_of_lt hi2, List.nodup_cons.2 ⟨fun hD' => by have := HDL.out D hD'; omega, HND.out⟩, (fun D' hD' => by
            have h7 := HS7S.out
            rcases List.mem_cons.1 hD' with rfl | hD'
            · omega
            · have := HDL.out D' hD'; omega), by have h7 := HS7S.out; omega, hwb, HMS2.out⟩, ?_⟩
          simp [intOf]
          exact HMU.out
        case hstop =>
          rintro D c R W5 hD hr ⟨rfl, hrm, h⟩ hK
          have hmin : min m (subM n k) = R := by omega
          clear hrm
          refine wpIn_exit ?_
          have hc5 := h.ww.x1.cell
          obtain ⟨v5, hx5, ho5⟩ := h.l
          have hsh : ∃ A C, v5 = .slice A R C := by
            rcases ho5.2 with ⟨rfl, h⟩ | ⟨g, cap, cur, rfl, _⟩
            · exact ⟨none, 0, by rw [h]⟩
            · exact ⟨_, _, rfl⟩
          obtain ⟨A5, C5, rfl⟩ := hsh
          have hc8 := hx5.cell
          have hwl : WU W5 A5 R (takeS n k R) := Own.sl (fun _ => rfl) (show OwnU W5 A5 R C5 (takeS n k R) from by
            refine ⟨(takeS_len _ _ _).symm, ?_⟩
            have e1 : (takeS n k R).flatMap (fun x => [u8c x]) = (takeS n k R).map u8c := by
              induction takeS n k R with
              | nil => rfl
              | cons x l ih => simp only [List.flatMap_cons, List.map_cons, ih]; rfl
            rw [e1]
            refine ⟨ho5.1, ?_⟩
            rcases ho5.2 with h2 | ⟨g, cap, cur, h3, _, h4⟩
            · exact .inl h2
            · exact .inr ⟨g, cap, cur, h3, Nat.zero_le _, h4⟩)
          have hR3 : R ≤ 3000 := Nat.le_trans h.hr hm
          have HH := Lib.hid h
          have HWL := Lib.hid hwl
          have HX5 := Lib.hid (fun w' (hs : Same W5 w') => (boxed_same hx5 (hs.block _ hx5.lt (fun h => h))).cell)
          have HX6 := Lib.hid (fun w' (hs : Same W5 w') => (boxed_same h.ww.x1 (hs.block _ h.ww.x1.lt (fun h => h))).cell)
          have hgl : W.heap.size + 1 ≤ W5.heap.size := hx5.lt
          have HDS := Lib.hid (fun w => docSubsets_any n k m hm w)
          rw [hmin] at HDS
          clear hmin
          clear h hx5 ho5 hwl
          simp only [Exit.inBlock, Exit.then, if_true]
          gi_wp2
          refine wpIn_wide.2 ?_
          obtain ⟨S, hS⟩ : ∃ S : Nat → Prop, S = fun _ => False := ⟨_, rfl⟩
          have hl1 : W.heap.size < W5.heap.size := hgl
          have hl2 : w.heap.size < W5.heap.size := by omega
          have hn1 : ¬ S W.heap.size := by rw [hS]; exact fun h => h
          have hn2 : ¬ S w.heap.size := by rw [hS]; exact fun h => h
          refine wp_phS S [([0, 1, 2, 3], 4), ([], 5), ([], 6)] (by kernel_rfl) (by kernel_rfl) ?_
          simp only [wpPh, pick, List.map_cons, List.map_nil, List.getD_cons_zero, List.getD_cons_succ]
          repeat (any_goals (first | go_big_quiet_step (fail) | quiet_step (fail)))
          refine wpQuiet_nil ?_
          refine effStep_plain rfl fun K hK => ?_
          go_simp
          refine (HDS.out _).mono ?_
          rintro e w6 ⟨A6, C6, rfl, hN6, hF6, hs6⟩
          have hs56 : Same W5 w6 := ((Frm.refl _ W5).drew).trans hs6 (fun _ _ h => h)
          rw [takeS_len] at hN6
          have HSS := Lib.hid (msets_any A5 A6 R R C5 C6 _ _ w6 (Sl.same HWL.out hs56) (Own.sl (fun _ => rfl) hN6) (by omega) (by omega))
          rw [decide_eq_true rfl] at HSS
          refine hK _ _ (Lat.mk_ (by rw [hS]; exact hs56)) ?_
          have HS56 := Lib.hid hs56
          clear hK K hs6 hs56 hN6 hF6
          refine wpQuiet_nil ?_
          refine effStep_plain rfl fun K hK => ?_
          go_simp
          refine HSS.out.mono ?_
          rintro e w7 ⟨rfl, hs7⟩
          have hs57 : Same W5 w7 := HS56.out.trans hs7 (fun _ _ h => h)
          refine hK _ _ (Lat.mk_ (by rw [hS]; exact hs57)) ?_
          have HS7 := Lib.hid hs57
          clear hK K hs7 hs57
          refine wpQuiet_nil ?_
          go_wp2
          have hDl : D < W5.heap.size := (Array.getElem?_eq_some_iff.1 hK).1
          have hms2 : MsW w b1 n k m (D :: Ds) w7 := MsW.step (g := W5.heap.size) (⟨HH.out.ww.b, HH.out.ww.x1, HH.out.ww.x2, HH.out.ww.x3, fun D' hD' => by
            rcases List.mem_cons.1 hD' with rfl | hD'
            · exact ⟨hK, by omega⟩
            · exact HH.out.ww.ds D' hD'⟩ : MsW w b1 n k m (D :: Ds) W5) (HS7.out.to_below (Nat.le_refl _) (fun _ _ h => h)) hl2 (by omega) (fun D' hD' => by
            rcases List.mem_cons.1 hD' with rfl | hD'
            · exact hDl
            · have := HDL.out D' hD'; omega)
          have HMS2 := Lib.hid hms2
          have HS7S := Lib.hid HS7.out.size
          clear hms2
          gi_wp2
          first | rw [HI5.out] | rw [HIW.out]
          refine ⟨⟨i + 1, D :: Ds, _, _, _, _, _, _, _, _, _, _, _, _, _, _, _, _, _, _, _, _, _, _, _, _, _, _, _, _, _, _, _, _, _, _, rfl, Nat.succ_le_of_lt hi2, List.nodup_cons.2 ⟨fun hD' => by have := HDL.out D hD'; omega, HND.out⟩, (fun D' hD' => by
            have h7 := HS7S.out
            rcases List.mem_cons.1 hD' with rfl | hD'
            · omega
            · have := HDL.out D' hD'; omega), by have h7 := HS7S.out; omega, hwb, HMS2.out⟩, ?_⟩
          simp [intOf]
          exact HMU.out
      · obtain rfl : i = 2 := by omega
        have hi3 : ¬ ((2 : Nat) : Int) < 2 := by omega
        gi_wp2
        exact leaves_all w.heap.size (fun _ => results_tmp rfl _ _ _) Ds W HND.out HMS.out.ds (fun w' hb => ⟨rfl, HMS.out.b.trans hb⟩)
theorem maskSubsets_any (n k mm : Int) (w : World) (h0 : 0 < w.heap.size) (hT : Tab64 w) :
    Calls Tryd.prog 9 #[.int .i64 n, .int .i64 k, .int .i64 mm] w fun e w' => e = .returned (.bool true) ∧ Below w.heap.size w w' :=
  callsIn_wide.1 (msub_in n k mm (max 0 (min mm 3000)).toNat (by omega) (by omega) w h0 hT)
end Go.Proofs.YtekocjnmlgiceaaDoor


/- Masks: from the listed table to the walks' condition; a world that meets it. -/
namespace Go.Proofs.YtekocjnmlgiceaaDoor
open Go.RowKit Go.Tk Go.Shelf Go.ChangeShapes Go.WideShapes

theorem tab_gn : Tryd.prog.globalNamed "math/bits.deBruijn64tab" = some 0 := by kernel_rfl
theorem tab_of_laid {W : World} (h : laidMetH Tryd.prog [("math/bits.deBruijn64tab", Rows.laid_math_bits_deBruijn64tab)] W) : Tab64 W := by
  have h' : laidMet Tryd.prog [("math/bits.deBruijn64tab", Lib.tabData .u8 (Lib.deBruijn64tab.map fun (x : Nat) => (x : Int)))] W := h
  have hT := Lib.tabIs_of_head (n := 64) tab_gn (show (Tryd.prog.globals[0]?).map (·.type) = some 64 by kernel_rfl) (show Tryd.prog.underlying 64 = some (.array 64 5) by kernel_rfl) (show Tryd.prog.underlying 5 = some (.int .u8) by kernel_rfl) (by kernel_rfl) (by kernel_rfl) h'
  intro j hj
  have h1 := hT.cell tab_gn j (by rw [List.length_map]; exact hj)
  rw [h1]
  simp [List.getD, List.getElem?_map, List.getElem?_eq_getElem hj]
theorem tab_pos {W : World} (h : Tab64 W) : 0 < W.heap.size := by
  have h1 := h 0 (by decide)
  unfold World.cell? at h1
  rcases Nat.eq_zero_or_pos W.heap.size with h0 | h0
  · rw [Array.getElem?_eq_none (by simp only [h0]; exact Nat.le_refl _)] at h1
    simp at h1
  · exact h0
theorem ownK : ownKnob Tryd.prog.godebug = none := by kernel_rfl
theorem laidOutK : laidOutB Tryd.prog = true := by kernel_rfl
noncomputable def laidWorld (os : Os) : World :=
  let w0 := World.holding Tryd.prog os ⟨#[], #[], []⟩
  { w0 with heap := w0.heap.modify 0 fun
      | .cells _ t frozen => .cells #[.int .u8 0, .int .u8 1, .int .u8 56, .int .u8 2, .int .u8 57, .int .u8 49, .int .u8 28, .int .u8 3, .int .u8 61, .int .u8 58, .int .u8 42, .int .u8 50, .int .u8 38, .int .u8 29, .int .u8 17, .int .u8 4, .int .u8 62, .int .u8 47, .int .u8 59, .int .u8 36, .int .u8 45, .int .u8 43, .int .u8 51, .int .u8 22, .int .u8 53, .int .u8 39, .int .u8 33, .int .u8 30, .int .u8 24, .int .u8 18, .int .u8 12, .int .u8 5, .int .u8 63, .int .u8 55, .int .u8 48, .int .u8 27, .int .u8 60, .int .u8 41, .int .u8 37, .int .u8 16, .int .u8 46, .int .u8 35, .int .u8 44, .int .u8 21, .int .u8 52, .int .u8 32, .int .u8 23, .int .u8 11, .int .u8 54, .int .u8 26, .int .u8 40, .int .u8 15, .int .u8 34, .int .u8 20, .int .u8 31, .int .u8 10, .int .u8 25, .int .u8 14, .int .u8 19, .int .u8 9, .int .u8 13, .int .u8 8, .int .u8 7, .int .u8 6] t frozen
      | o => o }
theorem laidWorld_met (os : Os) (args : Array Value) : laidMetH Tryd.prog [("math/bits.deBruijn64tab", Rows.laid_math_bits_deBruijn64tab)] ((laidWorld os).forCall (fun _ _ => 0) ⟨#[], args, []⟩).memory :=
  laidMetH_of_parts (laidMet_of_run' 8 (by kernel_rfl) (by kernel_rfl)) (by kernel_rfl)
end Go.Proofs.YtekocjnmlgiceaaDoor
