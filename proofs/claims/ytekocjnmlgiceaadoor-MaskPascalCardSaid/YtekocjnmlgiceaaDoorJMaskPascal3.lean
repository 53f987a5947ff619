/- Contracts and plain laws, put together in one file. No condition. -/
import Derived.Test.YtekocjnmlgiceaaDoorJMaskPascal2
import Derived.RangeFuncNested
import Derived.TacticsIn
import Derived.BigFrameIn
import Derived.Test.YtekocjnmlgiceaaDoorTie
import Derived.Lib.LaidTab
import Derived.SevenTiedAt


/- Masks: a range over Subsets. -/
namespace Go.Proofs.YtekocjnmlgiceaaDoor
open Go.RowKit Go.Tk Go.Shelf

attribute [local go_sem] Oper.semAt_some

set_option maxHeartbeats 4000000 in
theorem sub1_bad (d l b1 b2 : Nat) (n k : Int) (hb : ¬ (0 ≤ n ∧ n ≤ 64 ∧ 0 ≤ k ∧ k ≤ n)) (_hd : 1 ≤ d)
    (W : World) (hc1 : W.cell? ⟨b1, 0, none⟩ = some (.int .i64 n)) (hc2 : W.cell? ⟨b2, 0, none⟩ = some (.int .i64 k)) :
    CallsIn Fence.wide d Tryd.prog 40 #[.func (.yield l) #[] #[], .pointer (some ⟨b1, 0, none⟩), .pointer (some ⟨b2, 0, none⟩)] W fun e W' => (∃ v, e = .returned v) ∧ W' = W := by
  refine callsIn_of_wp Tryd.func40 rfl trivial ?_ rfl
  simp only [Tryd.ntmps40, List.size_toArray, List.length_cons, List.length_nil, Nat.reduceAdd, Nat.reduceSub, Array.replicate_succ, Array.replicate_zero, List.push_toArray, List.append_toArray, List.nil_append, List.cons_append]
  by_cases h1 : n < 0
  · gi_wp2
    refine bodyPost_ret (results_none rfl _ _ _) rfl ?_
    exact ⟨⟨_, rfl⟩, rfl⟩
  by_cases h2 : n > 64
  · gi_wp2
    refine bodyPost_ret (results_none rfl _ _ _) rfl ?_
    exact ⟨⟨_, rfl⟩, rfl⟩
  by_cases h3 : k < 0
  · gi_wp2
    refine bodyPost_ret (results_none rfl _ _ _) rfl ?_
    exact ⟨⟨_, rfl⟩, rfl⟩
  have h4 : k > n := by omega
  clear hb
  gi_wp2
  refine bodyPost_ret (results_none rfl _ _ _) rfl ?_
  exact ⟨⟨_, rfl⟩, rfl⟩
theorem sub1_in (d l b1 b2 : Nat) (n k : Int) (J Jx : Nat → World → Prop) (hd : 1 ≤ d) (hJd : ∀ r W, J r W → J r W.drew)
    (hY : ∀ r W, r < subM n k → J r W → YieldAt Fence.wide (d - 1) Tryd.prog l #[.int .u64 (subS n k r : Nat)] W fun e W' => (e = .returned (.bool true) ∧ J (r + 1) W') ∨ (e = .returned (.bool false) ∧ Jx r W'))
    (W : World) (hc1 : W.cell? ⟨b1, 0, none⟩ = some (.int .i64 n)) (hc2 : W.cell? ⟨b2, 0, none⟩ = some (.int .i64 k)) (h0 : J 0 W) :
    CallsIn Fence.wide d Tryd.prog 40 #[.func (.yield l) #[] #[], .pointer (some ⟨b1, 0, none⟩), .pointer (some ⟨b2, 0, none⟩)] W fun e W' => (∃ v, e = .returned v) ∧ (J (subM n k) W' ∨ ∃ r, r < subM n k ∧ Jx r W') := by
  by_cases hg : 0 ≤ n ∧ n ≤ 64 ∧ 0 ≤ k ∧ k ≤ n
  · obtain ⟨g1, g2, g3, g4⟩ := hg
    obtain ⟨N, rfl⟩ := Int.eq_ofNat_of_zero_le g1
    obtain ⟨K, rfl⟩ := Int.eq_ofNat_of_zero_le g3
    have hM : subM (N : Int) (K : Int) = chs N K := by unfold subM; rw [if_pos ⟨g1, g2, g3, g4⟩, Int.toNat_natCast, Int.toNat_natCast]
    have hS : ∀ r, subS (N : Int) (K : Int) r = unS N K r := fun r => by unfold subS; rw [Int.toNat_natCast, Int.toNat_natCast]
    rw [hM] at hY ⊢
    simp only [hS] at hY
    exact sub1_good d l b1 b2 N K (by omega) (by omega) J Jx hd hJd hY W hc1 hc2 h0
  · have hM : subM n k = 0 := by unfold subM; rw [if_neg hg]
    rw [hM]
    refine (sub1_bad d l b1 b2 n k hg hd W hc1 hc2).mono ?_
    rintro e W' ⟨hv, rfl⟩
    exact ⟨hv, .inl h0⟩

def subPost (B : Nat) (I : Nat → World → Prop) (Ix : Code → Nat → World → Prop) (r : Nat) (W : World) : Exit → Act → World → Prop
  | .normal, _, W' => KeepsFrom B W W' ∧ I (r + 1) W'
  | .ret, _, W' => KeepsFrom B W W' ∧ Ix .ret r W'
  | .exit id, _, W' => KeepsFrom B W W' ∧ Ix (.exit id) r W'
  | _, _, _ => False

set_option maxHeartbeats 2000000 in
theorem range_subs {d : Nat} (h1 : 2 ≤ d) {g : Operand} {p : Tmp} {assign body : Code} {Q : Exit → Act → World → Prop} {a : Act} {w : World} {b1 b2 : Nat} {n k : Int}
    (hg : a.eval g = .func (.func 40) #[] #[.pointer (some ⟨b1, 0, none⟩), .pointer (some ⟨b2, 0, none⟩)])
    (hc1 : Boxed w b1 3 (.int .i64 n)) (hc2 : Boxed w b2 3 (.int .i64 k))
    (I : Nat → World → Prop) (Ix : Code → Nat → World → Prop)
    (hId : ∀ r W, I r W → I r W.drew)
    (hIa : ∀ r W o, w.heap.size ≤ W.heap.size → I r W → I r (W.alloc o))
    (hIp : ∀ r W l o o', w.heap.size ≤ l → W.heap[l]? = some o' → o'.isCells = false → I r W → I r (W.putObj l o))
    (hIxp : ∀ c r W l o o', w.heap.size ≤ l → W.heap[l]? = some o' → o'.isCells = false → Ix c r W → Ix c r (W.putObj l o))
    (h0 : I 0 w) (a₁ : Nat → Act)
    (hassign : ∀ (l r : Nat) (W : World) (K : Act → World → Prop), K (a₁ r) W →
      assign.wpIn (Fence.wide.inRound l) (d - 1 - 1) Tryd.prog (Exit.then K (fun _ _ _ => False)) { tmps := a.tmps.setIfInBounds p (.int .u64 (subS n k r : Nat)), defers := [] } W)
    (hbody : ∀ (l r : Nat) (W : World), r < subM n k → I r W → w.heap.size ≤ W.heap.size → body.wpIn (Fence.wide.inRound l) (d - 1 - 1) Tryd.prog (subPost w.heap.size I Ix r W) (a₁ r) W)
    (hdone : ∀ (D : Nat) (W : World), w.heap.size ≤ D → I (subM n k) W → W.heap[D]? = some (.deferred (some [])) → Q .normal { a with defers := { target := .collected D, args := #[] } :: a.defers } W)
    (hstop : ∀ (D : Nat) (c : Code) (r : Nat) (W : World), w.heap.size ≤ D → r < subM n k → Ix c r W → W.heap[D]? = some (.deferred (some [])) → c.wpIn Fence.wide d Tryd.prog Q { a with defers := { target := .collected D, args := #[] } :: a.defers } W) :
    (Code.rangeFunc g #[p] assign body).wpIn Fence.wide d Tryd.prog Q a w := by
  refine wpIn_rangeFunc ?_
  intro fn hfn
  obtain ⟨rec, hrec⟩ : ∃ rec : LoopState → Option Code → Loop, rec = fun st pe => { state := st, pending := pe, fn, tmps := a.tmps, params := #[p], assign, body, defers := w.heap.size } := ⟨_, rfl⟩
  obtain ⟨W1, hW1⟩ : ∃ W1, (w.alloc (.deferred (some []))).alloc (.loop (rec .ready none)) = W1 := ⟨_, rfl⟩
  have hL1 : W1.heap[w.heap.size + 1]? = some (.loop (rec .ready none)) := by
    rw [← hW1]; have := World.alloc_heap_new (w.alloc (.deferred (some []))) (.loop (rec .ready none)); rwa [World.size_alloc] at this
  have hK1 : W1.heap[w.heap.size]? = some (.deferred (some [])) := by
    rw [← hW1]; exact (Below.heap_alloc _ _ _ (by simp)).trans (World.alloc_heap_new w _)
  have hI1 : I 0 W1 := by rw [← hW1]; exact hIa _ _ _ (by simp) (hIa _ _ _ (Nat.le_refl _) h0)
  have hB1 : Boxed W1 b1 3 (.int .i64 n) := by rw [← hW1]; exact (hc1.alloc _).alloc _
  have hB2 : Boxed W1 b2 3 (.int .i64 k) := by rw [← hW1]; exact (hc2.alloc _).alloc _
  have hsz1 : W1.heap.size = w.heap.size + 2 := by rw [← hW1]; simp
  refine ⟨w.heap.size + 1, [{ target := .collected w.heap.size, args := #[] }], W1, { target := .fn (.func 40) #[.pointer (some ⟨b1, 0, none⟩), .pointer (some ⟨b2, 0, none⟩)], args := #[.func (.yield (w.heap.size + 1)) #[] #[]] }, W1, 40,
    #[.func (.yield (w.heap.size + 1)) #[] #[]] ++ #[.pointer (some ⟨b1, 0, none⟩), .pointer (some ⟨b2, 0, none⟩)], W1, ?_, ?_, ?_, ?_, fun _ => by omega, ?_⟩
  · rw [← hW1, hrec]; exact run_enterLoop_outer _ _ _ _ _
  · simp only [resolve, hg]
    simp [go_sem]
  · intro f' _; exact trivial
  · simp [invoke, go_sem]
  · refine (sub1_in (d - 1) (w.heap.size + 1) b1 b2 n k
      (fun r W => I r W ∧ W.heap[w.heap.size + 1]? = some (.loop (rec .ready none)) ∧ W.heap[w.heap.size]? = some (.deferred (some [])))
      (fun r W => ∃ c, Ix c r W ∧ W.heap[w.heap.size + 1]? = some (.loop (rec .done (some c))) ∧ W.heap[w.heap.size]? = some (.deferred (some [])))
      (by omega) (fun r W h => ⟨hId _ _ h.1, h.2.1, h.2.2⟩)
      ?_ W1 hB1.cell hB2.cell ⟨hI1, hL1, hK1⟩).mono ?_
    · rintro r W hr ⟨hi, hl, hk⟩
      have hlt : w.heap.size + 1 < W.heap.size := (Array.getElem?_eq_some_iff.1 hl).1
      have hy := run_yield (P := Tryd.prog) (args := #[.int .u64 (subS n k r : Nat)]) hl (by rw [hrec]; rfl)
      rw [hrec] at hy
      have hfold : (#[p].zip #[Value.int .u64 (subS n k r : Nat)]).foldl (fun tmps (t, a) => tmps.setIfInBounds t a) a.tmps = a.tmps.setIfInBounds p (.int .u64 (subS n k r : Nat)) := by simp
      simp only [hfold] at hy
      refine ⟨fn, _, assign, body, hy, roundIn_of_wpIn hfn ?_⟩
      refine hassign _ r W _ ?_
      refine ⟨_, run_beginRound hl (by rw [hrec]), ?_⟩
      have hl2 : (W.putObj (w.heap.size + 1) (.loop { rec .ready none with state := .busy })).heap[w.heap.size + 1]? = some (.loop { rec .ready none with state := .busy }) := World.putObj_heap_same hlt
      have hk2 : (W.putObj (w.heap.size + 1) (.loop { rec .ready none with state := .busy })).heap[w.heap.size]? = some (.deferred (some [])) := (World.putObj_heap_other (by omega)).trans hk
      refine wpIn_mono (hbody _ r _ hr (hIp _ _ _ _ _ (by omega) hl rfl hi) (by simp <;> omega)) ?_
      have fin : ∀ (jump : Option Code) (W3 : World), KeepsFrom w.heap.size (W.putObj (w.heap.size + 1) (.loop { rec .ready none with state := .busy })) W3 →
          (Instr.endRound (w.heap.size + 1) jump).run Tryd.prog W3 = .ok (.bool jump.isNone) (W3.putObj (w.heap.size + 1) (.loop (rec (if jump.isNone then .ready else .done) jump))) ∧
          W3.heap[w.heap.size + 1]? = some (.loop { rec .ready none with state := .busy }) ∧
          (W3.putObj (w.heap.size + 1) (.loop (rec (if jump.isNone then .ready else .done) jump))).heap[w.heap.size + 1]? = some (.loop (rec (if jump.isNone then .ready else .done) jump)) ∧
          (W3.putObj (w.heap.size + 1) (.loop (rec (if jump.isNone then .ready else .done) jump))).heap[w.heap.size]? = some (.deferred (some [])) := fun jump W3 hk3 => by
        have hl3 := hk3.same _ _ (by omega) hl2 rfl
        have := run_endRound (P := Tryd.prog) jump hl3
        rw [hrec] at this ⊢
        exact ⟨this, by rw [hrec] at hl3; exact hl3, World.putObj_heap_same (Array.getElem?_eq_some_iff.1 hl3).1, (World.putObj_heap_other (by omega)).trans (hk3.same _ _ (Nat.le_refl _) hk2 rfl)⟩
      rintro e a3 W3 hp
      cases e with
      | normal =>
        obtain ⟨hk3, hi3⟩ := hp
        obtain ⟨hr, hl3, hl4, hk4⟩ := fin none W3 hk3
        exact ⟨_, _, hr, .inl ⟨rfl, hIp _ _ _ _ _ (by omega) hl3 rfl hi3, hl4, hk4⟩⟩
      | ret =>
        obtain ⟨hk3, hi3⟩ := hp
        obtain ⟨hr, hl3, hl4, hk4⟩ := fin (some .ret) W3 hk3
        exact ⟨_, _, hr, .inr ⟨rfl, .ret, hIxp _ _ _ _ _ _ (by omega) hl3 rfl hi3, hl4, hk4⟩⟩
      | exit id =>
        obtain ⟨hk3, hi3⟩ := hp
        obtain ⟨hr, hl3, hl4, hk4⟩ := fin (some (.exit id)) W3 hk3
        exact ⟨_, _, hr, .inr ⟨rfl, .exit id, hIxp _ _ _ _ _ _ (by omega) hl3 rfl hi3, hl4, hk4⟩⟩
      | _ => exact hp.elim
    · rintro e W2 ⟨⟨v, rfl⟩, (⟨hi, hl, hk⟩ | ⟨r, hr, c, hi, hl, hk⟩)⟩
      · exact ⟨none, _, by have := run_endLoop (P := Tryd.prog) hl (by rw [hrec]; simp); rw [hrec] at this; exact this, hdone _ _ (Nat.le_refl _) (hIp _ _ _ _ _ (by omega) hl rfl hi) ((World.putObj_heap_other (by omega)).trans hk)⟩
      · exact ⟨some c, _, by have := run_endLoop (P := Tryd.prog) hl (by rw [hrec]; simp); rw [hrec] at this; exact this, hstop _ c r _ (Nat.le_refl _) hr (hIxp _ _ _ _ _ _ (by omega) hl rfl hi) ((World.putObj_heap_other (by omega)).trans hk)⟩
end Go.Proofs.YtekocjnmlgiceaaDoor


/- Masks: MaskPascal. -/
namespace Go.Proofs.YtekocjnmlgiceaaDoor
open Go.RowKit Go.Tk Go.Shelf

attribute [local go_sem] Oper.semAt_some

theorem ch_in {N K : Nat} (hN : N ≤ 64) (hK : K ≤ 64) : chV N K = chs N K ∧ chE N K = 0 := by
  have h3 : ¬ ((N : Int) < 0 ∨ (64 : Int) < N ∨ (K : Int) < 0 ∨ 64 < (K : Int)) := by omega
  unfold chV chE
  rw [if_neg h3, if_neg h3, Int.toNat_natCast, Int.toNat_natCast]
  exact ⟨rfl, rfl⟩
structure PsI (w : World) (g N K r : Nat) (W : World) : Prop where
  b : Below w.heap.size w W
  x1 : Boxed W w.heap.size 3 (.int .i64 N)
  x2 : Boxed W (w.heap.size + 1) 3 (.int .i64 K)
  x3 : Boxed W (w.heap.size + 1 + 1) 4 (.bool false)
  x4 : Boxed W g 24 (.int .u64 r)
  x5 : Boxed W (g + 1) 24 (.int .u64 ((if r = 0 then 0 else unS N K (r - 1) : Nat) : Int))
theorem pas_res {tmps : Array Value} {w : World} {b : Nat} {v : Value} (ht : tmps.getD 4 undef = .pointer (some ⟨b, 0, none⟩)) (hc : w.cell? ⟨b, 0, none⟩ = some v) : (results Tryd.f10 tmps).run Tryd.prog w = .ok v w := by
  simp only [results, show Tryd.f10.results = #[.cell 4 4] from rfl]
  have ht' : tmps[4]?.getD undef = .pointer (some ⟨b, 0, none⟩) := by simpa using ht
  simp [ht', asAddr]
  go_simp
set_option maxRecDepth 100000 in
set_option maxHeartbeats 4000000 in
theorem pascal_in (n k : Int) (w : World) (h0 : 0 < w.heap.size) (hT : Tab64 w) :
    CallsIn Fence.wide 6 Tryd.prog 10 #[.int .i64 n, .int .i64 k] w fun e w' => e = .returned (.bool true) ∧ Below w.heap.size w w' := by
  obtain ⟨W0, hW0⟩ : ∃ W0, W0 = ((w.alloc (.cells #[.int .i64 n] 3)).alloc (.cells #[.int .i64 k] 3)).alloc (.cells #[.bool false] 4) := ⟨_, rfl⟩
  have hsz0 : W0.heap.size = w.heap.size + 3 := by rw [hW0]; simp
  have hb0 : Below w.heap.size w W0 := by rw [hW0]; exact (((Below.refl _ w).alloc (Nat.le_refl _) _).alloc (by simp) _).alloc (by simp <;> omega) _
  have hx1 : Boxed W0 w.heap.size 3 (.int .i64 n) := by rw [hW0]; exact ((Boxed.new w _ _).alloc _).alloc _
  have hx2 : Boxed W0 (w.heap.size + 1) 3 (.int .i64 k) := by
    rw [hW0]
    have := (Boxed.new (w.alloc (.cells #[.int .i64 n] 3)) 3 (.int .i64 k)).alloc (.cells #[.bool false] 4)
    simpa using this
  have hx3 : Boxed W0 (w.heap.size + 1 + 1) 4 (.bool false) := by
    rw [hW0]
    have := Boxed.new ((w.alloc (.cells #[.int .i64 n] 3)).alloc (.cells #[.int .i64 k] 3)) 4 (.bool false)
    simpa using this
  have HX1 := Lib.hid (fun w' (hs : Same W0 w') => boxed_same hx1 (hs.block _ hx1.lt (fun h => h)))
  have HX2 := Lib.hid (fun w' (hs : Same W0 w') => boxed_same hx2 (hs.block _ hx2.lt (fun h => h)))
  have HX3 := Lib.hid (fun w' (hs : Same W0 w') => boxed_same hx3 (hs.block _ hx3.lt (fun h => h)))
  have HAW := Lib.hid (callsIn_wide (n := 5).2 (awake_any W0 (by omega) (tab64_below hb0 h0 hT)))
  have HB0 := Lib.hid hb0
  have HSZ := Lib.hid hsz0
  clear hb0 hsz0 hx1 hx2 hx3
  refine callsIn_of_wp_marks Tryd.func10 rfl trivial ?_ rfl
  simp only [Tryd.ntmps10, List.size_toArray, List.length_cons, List.length_nil, Nat.reduceAdd, Nat.reduceSub, Array.replicate_succ, Array.replicate_zero, List.push_toArray, List.append_toArray, List.nil_append, List.cons_append]
  gi_wp2_with (fail)
  refine ⟨trivial, ?_⟩
  rw [← hW0]
  refine HAW.out.mono ?_
  rintro e w1 ⟨rfl, hs1⟩
  have HS1 := Lib.hid hs1
  have c1 := (HX1.out _ hs1).cell
  have c2 := (HX2.out _ hs1).cell
  have c3 := (HX3.out _ hs1).cell
  have f3 := (HX3.out _ hs1).frozen
  have HF1 := Lib.hid (HB0.out.trans (hs1.to_below (by rw [HSZ.out]; omega) (fun _ _ h => h)))
  clear hs1 HAW
  by_cases hbad : n < 1 ∨ n > 64 ∨ k < 1 ∨ k > n
  · by_cases b1 : n < 1
    · clear hbad
      gi_wp2
      exact ⟨_, pas_res rfl (World.cell?_setCell_same' _ _ _ (by rw [c3]; rfl)), rfl, HF1.out.setCell (p := ⟨w.heap.size + 1 + 1, 0, none⟩) (by show w.heap.size ≤ w.heap.size + 1 + 1; omega) _⟩
    by_cases b2 : n > 64
    · clear hbad
      gi_wp2
      exact ⟨_, pas_res rfl (World.cell?_setCell_same' _ _ _ (by rw [c3]; rfl)), rfl, HF1.out.setCell (p := ⟨w.heap.size + 1 + 1, 0, none⟩) (by show w.heap.size ≤ w.heap.size + 1 + 1; omega) _⟩
    by_cases b3 : k < 1
    · clear hbad
      gi_wp2
      exact ⟨_, pas_res rfl (World.cell?_setCell_same' _ _ _ (by rw [c3]; rfl)), rfl, HF1.out.setCell (p := ⟨w.heap.size + 1 + 1, 0, none⟩) (by show w.heap.size ≤ w.heap.size + 1 + 1; omega) _⟩
    have b4 : k > n := by omega
    clear hbad
    gi_wp2
    exact ⟨_, pas_res rfl (World.cell?_setCell_same' _ _ _ (by rw [c3]; rfl)), rfl, HF1.out.setCell (p := ⟨w.heap.size + 1 + 1, 0, none⟩) (by show w.heap.size ≤ w.heap.size + 1 + 1; omega) _⟩
  · have g1 : 1 ≤ n := by omega
    have g2 : n ≤ 64 := by omega
    have g3 : 1 ≤ k := by omega
    have g4 : k ≤ n := by omega
    have n1 : ¬ n < 1 := by omega
    have n2 : ¬ n > 64 := by omega
    have n3 : ¬ k < 1 := by omega
    have n4 : ¬ k > n := by omega
    clear hbad
    obtain ⟨N, rfl⟩ := Int.eq_ofNat_of_zero_le (show 0 ≤ n by omega)
    obtain ⟨K, rfl⟩ := Int.eq_ofNat_of_zero_le (show 0 ≤ k by omega)
    have hKN : K ≤ N := by omega
    have hN64 : N ≤ 64 := by omega
    obtain ⟨N1, hN1⟩ : ∃ z, N = z + 1 := ⟨N - 1, by omega⟩
    obtain ⟨K1, hK1⟩ : ∃ z, K = z + 1 := ⟨K - 1, by omega⟩
    have C1 := Lib.hid (fun w => callsIn_wide (n := 5).2 (chooseA_any N K w))
    rw [(ch_in hN64 (by omega)).1, (ch_in hN64 (by omega)).2] at C1
    have C2 := Lib.hid (fun w => callsIn_wide (n := 5).2 (chooseA_any N1 K1 w))
    rw [(ch_in (by omega) (by omega)).1, (ch_in (by omega) (by omega)).2] at C2
    have C3 := Lib.hid (fun w => callsIn_wide (n := 5).2 (chooseA_any N1 K w))
    rw [(ch_in (by omega) (by omega)).1, (ch_in (by omega) (by omega)).2] at C3
    have C4 := Lib.hid (fun w => callsIn_wide (n := 5).2 (chooseA_any N (N - K : Nat) w))
    rw [(ch_in hN64 (by omega)).1, (ch_in hN64 (by omega)).2, chs_sym hKN] at C4
    have hsum : chs N K = chs N1 K1 + chs N1 K := by rw [hN1, hK1, chs_succ]
    have hcu : chs N K < 18446744073709551616 := chs_u64 hN64
    obtain ⟨M, hM⟩ : ∃ z, z = chs N K := ⟨_, rfl⟩
    obtain ⟨m1, hm1⟩ : ∃ z, z = chs N1 K1 := ⟨_, rfl⟩
    obtain ⟨m2, hm2⟩ : ∃ z, z = chs N1 K := ⟨_, rfl⟩
    rw [← hM] at C1 C4 hsum hcu
    rw [← hm1] at C2 hsum
    rw [← hm2] at C3 hsum
    have w1' : IntKind.i64.wrap ((N : Int) - 1) = (N1 : Int) := by rw [IntWalk.i64_in _ (by omega)]; omega
    have w2' : IntKind.i64.wrap ((K : Int) - 1) = (K1 : Int) := by rw [IntWalk.i64_in _ (by omega)]; omega
    have w3' : IntKind.i64.wrap ((N : Int) - K) = ((N - K : Nat) : Int) := by rw [IntWalk.i64_in _ (by omega)]; omega
    have w1'' : wrap64 ((N : Int) - 1) = (N1 : Int) := by rw [← w1', IntWalk.i64_left]
    have w2'' : wrap64 ((K : Int) - 1) = (K1 : Int) := by rw [← w2', IntWalk.i64_left]
    have w3'' : wrap64 ((N : Int) - K) = ((N - K : Nat) : Int) := by rw [← w3', IntWalk.i64_left]
    have w4 : IntKind.u64.wrap ((m1 : Int) + m2) = (M : Int) := by rw [IntWalk.u64_in _ (by omega)]; omega
    have HM := Lib.hid hM
    have HN1 := Lib.hid hN1
    clear hM hm1 hm2 hsum hN1 hK1
    gi_wp2_with (fail)
    refine ⟨trivial, ?_⟩
    refine (C1.out _).mono ?_
    rintro e wa ⟨rfl, hs⟩
    have HS2 := Lib.hid (HS1.out.trans hs (fun _ _ h => h))
    have c1 := (HX1.out _ HS2.out).cell
    have c2 := (HX2.out _ HS2.out).cell
    clear hs C1
    gi_wp2_with (fail)
    refine ⟨trivial, ?_⟩
    refine (C2.out _).mono ?_
    rintro e wb ⟨rfl, hs⟩
    have HS3 := Lib.hid (HS2.out.trans hs (fun _ _ h => h))
    have c1 := (HX1.out _ HS3.out).cell
    have c2 := (HX2.out _ HS3.out).cell
    clear hs C2
    gi_wp2_with (fail)
    refine ⟨trivial, ?_⟩
    refine (C3.out _).mono ?_
    rintro e wc ⟨rfl, hs⟩
    have HS4 := Lib.hid (HS3.out.trans hs (fun _ _ h => h))
    have c1 := (HX1.out _ HS4.out).cell
    have c2 := (HX2.out _ HS4.out).cell
    clear hs C3
    gi_wp2_with (fail)
    refine ⟨trivial, ?_⟩
    refine (C4.out _).mono ?_
    rintro e wd ⟨rfl, hs⟩
    have HS5 := Lib.hid (HS4.out.trans hs (fun _ _ h => h))
    have c1 := (HX1.out _ HS5.out).cell
    have c2 := (HX2.out _ HS5.out).cell
    have c3 := (HX3.out _ HS5.out).cell
    have f3 := (HX3.out _ HS5.out).frozen
    have HF1 := Lib.hid (HB0.out.trans (HS5.out.to_below (by rw [HSZ.out]; omega) (fun _ _ h => h)))
    clear hs C4
    by_cases hbig : M > 3000
    · have hbig2 : (M : Int) > 3000 := by omega
      gi_wp2
      exact ⟨_, pas_res rfl (World.cell?_setCell_same' _ _ _ (by rw [c3]; rfl)), rfl, HF1.out.setCell (p := ⟨w.heap.size + 1 + 1, 0, none⟩) (by show w.heap.size ≤ w.heap.size + 1 + 1; omega) _⟩
    · have hbig2 : ¬ (M : Int) > 3000 := by omega
      have x1 := (((HX1.out _ HS5.out).alloc (.cells #[.int .u64 0] 24)).alloc (.cells #[.int .u64 0] 24))
      have x2 := (((HX2.out _ HS5.out).alloc (.cells #[.int .u64 0] 24)).alloc (.cells #[.int .u64 0] 24))
      have x3 := (((HX3.out _ HS5.out).alloc (.cells #[.int .u64 0] 24)).alloc (.cells #[.int .u64 0] 24))
      have x4 := (Boxed.new wd 24 (.int .u64 0)).alloc (.cells #[.int .u64 0] 24)
      have x5 := Boxed.new (wd.alloc (.cells #[.int .u64 0] 24)) 24 (.int .u64 0)
      have hbe := (HF1.out.alloc HF1.out.size (.cells #[.int .u64 0] 24)).alloc (by have := HF1.out.size; simp <;> omega) (.cells #[.int .u64 0] 24)
      have hsz : ((wd.alloc (.cells #[.int .u64 0] 24)).alloc (.cells #[.int .u64 0] 24)).heap.size = wd.heap.size + 1 + 1 := by simp
      have hwds : w.heap.size + 1 + 1 + 1 ≤ wd.heap.size := by have := HS5.out.size; rw [HSZ.out] at this; omega
      rw [World.size_alloc] at x5
      have c1 := x1.cell
      have c2 := x2.cell
      have X1 := Lib.hid x1
      have X2 := Lib.hid x2
      have X3 := Lib.hid x3
      have X4 := Lib.hid x4
      have X5 := Lib.hid x5
      have HBE := Lib.hid hbe
      have CS := Lib.hid (fun w => callsIn_wide (n := 5).2 (subsets_any N K w))
      clear x1 x2 x3 x4 x5 hbe
      gi_wp2_with (fail)
      obtain ⟨we, hwe⟩ : ∃ z, z = (wd.alloc (.cells #[.int .u64 0] 24)).alloc (.cells #[.int .u64 0] 24) := ⟨_, rfl⟩
      rw [← hwe] at X1 X2 X3 X4 X5 HBE c1 c2 hsz ⊢
      refine ⟨trivial, ?_⟩
      refine (CS.out _).mono ?_
      rintro e wf ⟨rfl, hwf⟩
      rw [hsz]
      have y1 := (X1.out.alloc (.cells #[.int .i64 N] 3)).alloc (.cells #[.int .i64 K] 3)
      have y2 := (X2.out.alloc (.cells #[.int .i64 N] 3)).alloc (.cells #[.int .i64 K] 3)
      have y3 := (X3.out.alloc (.cells #[.int .i64 N] 3)).alloc (.cells #[.int .i64 K] 3)
      have y4 := (X4.out.alloc (.cells #[.int .i64 N] 3)).alloc (.cells #[.int .i64 K] 3)
      have y5 := (X5.out.alloc (.cells #[.int .i64 N] 3)).alloc (.cells #[.int .i64 K] 3)
      have y6 := (Boxed.new we 3 (.int .i64 N)).alloc (.cells #[.int .i64 K] 3)
      have y7 := Boxed.new (we.alloc (.cells #[.int .i64 N] 3)) 3 (.int .i64 K)
      have y8 := (HBE.out.alloc HBE.out.size (.cells #[.int .i64 N] 3)).alloc (by have := HBE.out.size; simp <;> omega) (.cells #[.int .i64 K] 3)
      rw [World.size_alloc, hsz] at y7
      rw [hsz] at y6
      have hsf : wf.heap.size = wd.heap.size + 1 + 1 + 1 + 1 := by rw [hwf]; simp [hsz]
      rw [← hwf] at y1 y2 y3 y4 y5 y6 y7 y8
      have Y1 := Lib.hid y1
      have Y2 := Lib.hid y2
      have Y3 := Lib.hid y3
      have Y4 := Lib.hid y4
      have Y5 := Lib.hid y5
      have Y6 := Lib.hid y6
      have Y7 := Lib.hid y7
      have Y8 := Lib.hid y8
      clear y1 y2 y3 y4 y5 y6 y7 y8 X1 X2 X3 X4 X5 HBE c1 c2 hwf hwe CS HX1 HX2 HX3
      gi_wp2_with (fail)
      apply range_subs (d := 6) (b1 := wd.heap.size + 1 + 1) (b2 := wd.heap.size + 1 + 1 + 1) (n := N) (k := K) (by omega) rfl Y6.out Y7.out (PsI w wd.heap.size N K) (fun _ _ _ => False)
      case hassign =>
        intro l r W K' hK
        simp only [List.setIfInBounds_toArray, List.set_cons_succ, List.set_cons_zero]
        gi_wp2
        exact hK
      case hId => exact fun r W h => ⟨h.b.drew, h.x1, h.x2, h.x3, h.x4, h.x5⟩
      case hIa => exact fun r W o _ h => ⟨h.b.alloc h.b.size o, h.x1.alloc o, h.x2.alloc o, h.x3.alloc o, h.x4.alloc o, h.x5.alloc o⟩
      case hIp => exact fun r W l o o' hl _ _ h => ⟨below_putObj h.b (by omega) o, boxed_putObj h.x1 (by omega) o, boxed_putObj h.x2 (by omega) o, boxed_putObj h.x3 (by omega) o, boxed_putObj h.x4 (by omega) o, boxed_putObj h.x5 (by omega) o⟩
      case hIxp => exact fun _ _ _ _ _ _ _ _ _ h => h
      case h0 => exact ⟨Y8.out, Y1.out, Y2.out, Y3.out, Y4.out, Y5.out⟩
      case hstop => exact fun _ _ _ _ _ _ h _ => h.elim
      case hdone =>
        intro D W hD h hK
        have hm : subM N K = M := by unfold subM; rw [if_pos ⟨by omega, by omega, by omega, by omega⟩, Int.toNat_natCast, Int.toNat_natCast, HM.out]
        rw [hm] at h
        have c3 := h.x3.cell
        have f3 := h.x3.frozen
        have c4 := h.x4.cell
        have HH := Lib.hid h
        clear h hm
        simp only [Exit.inBlock, Exit.then]
        gi_wp2
        have hK2 := (KeepsOthers.setCell W ⟨w.heap.size + 1 + 1, 0, none⟩ (.bool true)).same D _ hK rfl
        refine ⟨by simp, .inl ⟨_, _, rfl, run_takeDeferred hK2, ?_⟩⟩
        exact ⟨_, pas_res rfl (boxed_putObj (HH.out.x3.set (.bool true)) (by omega) _).cell, rfl, below_putObj (HH.out.b.setCell (p := ⟨w.heap.size + 1 + 1, 0, none⟩) (by show w.heap.size ≤ w.heap.size + 1 + 1; omega) _) (by omega) _⟩
      case hbody =>
        intro l r W hr h hW
        have hm : subM N K = M := by unfold subM; rw [if_pos ⟨by omega, by omega, by omega, by omega⟩, Int.toNat_natCast, Int.toNat_natCast, HM.out]
        rw [hm, HM.out] at hr
        have hS : subS N K r = unS N K r := by unfold subS; rw [Int.toNat_natCast, Int.toNat_natCast]
        rw [hS]
        obtain ⟨k1, k2⟩ := sub_rk (n := N) (k := K) (r := r) hN64 hr
        have hsu : unS N K r < 18446744073709551616 := sub_u64 hN64
        have hand := u64_andNot_nat (unS N K r) (belN N) hsu (belN_lt _)
        have hz : unS N K r &&& (18446744073709551615 - belN N) = 0 := by
          have hlt : belN N < 2 ^ 64 := belN_lt _
          have e : 18446744073709551615 - belN N = 2 ^ 64 - (belN N + 1) := by
            have : (2 : Nat) ^ 64 = 18446744073709551616 := by decide
            omega
          refine Nat.eq_of_testBit_eq fun i => ?_
          rw [Nat.testBit_and, e, Nat.testBit_two_pow_sub_succ hlt, Nat.zero_testBit]
          by_cases hi : i < N
          · rw [bel_bit _ i (by omega), decide_eq_true (show (i : Int) < N by omega)]; simp
          · rw [Nat.testBit_lt_two_pow (Nat.lt_of_lt_of_le (unS_lt N K r) (Nat.pow_le_pow_right (by omega) (by omega)))]; simp
        rw [hz] at hand
        have hlast : (if r = 0 then 0 else unS N K (r - 1)) < unS N K r := by
          by_cases h0 : r = 0
          · rw [if_pos h0]
            refine Nat.pos_of_ne_zero fun hz => ?_
            rw [hz, mems_zero] at k1
            simp at k1
            omega
          · rw [if_neg h0]
            exact un_mono N K (by omega) hr
        have CN := Lib.hid (fun w => callsIn_wide (n := 3).2 (count_any (unS N K r) w hsu))
        rw [k1] at CN
        have CB := Lib.hid (fun w => callsIn_wide (n := 3).2 (below_any N w))
        have CR := Lib.hid (fun w h0 hT => callsIn_wide (n := 3).2 (rank_any (unS N K r) hsu w h0 hT))
        rw [k2] at CR
        have HHR := Lib.hid hr
        obtain ⟨x1, x2, x3, x4, x5⟩ := (⟨h.x1, h.x2, h.x3, h.x4, h.x5⟩ : _ ∧ _ ∧ _ ∧ _ ∧ _)
        obtain ⟨bl, hbl⟩ : ∃ z, z = belN N := ⟨_, rfl⟩
        rw [← hbl] at hand CB
        obtain ⟨lv, hlv⟩ : ∃ z, z = (if r = 0 then 0 else unS N K (r - 1)) := ⟨_, rfl⟩
        rw [← hlv] at hlast x5
        obtain ⟨sv, hsv⟩ : ∃ z, z = unS N K r := ⟨_, rfl⟩
        rw [← hsv] at hand hlast CN CR ⊢
        have HSV := Lib.hid hsv
        have hnl : ¬ (sv : Int) ≤ lv := by omega
        have hnl2 : ¬ sv ≤ lv := by omega
        have XX := Lib.hid (fun w' (hs : Same W w') => (⟨boxed_same x1 (hs.block _ x1.lt (fun h => h)), boxed_same x2 (hs.block _ x2.lt (fun h => h)), boxed_same x3 (hs.block _ x3.lt (fun h => h)), boxed_same x4 (hs.block _ x4.lt (fun h => h)), boxed_same x5 (hs.block _ x5.lt (fun h => h))⟩ : Boxed w' w.heap.size 3 (.int .i64 N) ∧ Boxed w' (w.heap.size + 1) 3 (.int .i64 K) ∧ Boxed w' (w.heap.size + 1 + 1) 4 (.bool false) ∧ Boxed w' wd.heap.size 24 (.int .u64 r) ∧ Boxed w' (wd.heap.size + 1) 24 (.int .u64 lv)))
        have HTW := Lib.hid (tab64_below h.b h0 hT)
        have HPW := Lib.hid (Nat.lt_of_lt_of_le h0 h.b.size)
        have HHB := Lib.hid h.b
        have c1 := x1.cell
        have c2 := x2.cell
        have c4 := x4.cell
        have c5 := x5.cell
        have hrw : IntKind.u64.wrap ((r : Int) + 1) = ((r + 1 : Nat) : Int) := by
          have := chs_u64 (n := N) (k := K) hN64
          rw [IntWalk.u64_in _ (by omega)]; omega
        have hfin := Lib.hid (show ∀ (w' : World) (a : Act), Same W w' → subPost wf.heap.size (PsI w wd.heap.size N K) (fun _ _ _ => False) r W .normal a ((w'.setCell ⟨wd.heap.size + 1, 0, none⟩ (.int .u64 (sv : Nat))).setCell ⟨wd.heap.size, 0, none⟩ (.int .u64 ((r + 1 : Nat) : Int))) from by
          intro w' a hs
          have hk : KeepsOthers W w' := ⟨hs.size, fun i o hi ho => (hs.block i (Array.getElem?_eq_some_iff.1 hi).1 (fun h => h)).trans hi⟩
          obtain ⟨z1, z2, z3, z4, z5⟩ := (⟨boxed_same x1 (hs.block _ x1.lt (fun h => h)), boxed_same x2 (hs.block _ x2.lt (fun h => h)), boxed_same x3 (hs.block _ x3.lt (fun h => h)), boxed_same x4 (hs.block _ x4.lt (fun h => h)), boxed_same x5 (hs.block _ x5.lt (fun h => h))⟩ : Boxed w' w.heap.size 3 (.int .i64 N) ∧ Boxed w' (w.heap.size + 1) 3 (.int .i64 K) ∧ Boxed w' (w.heap.size + 1 + 1) 4 (.bool false) ∧ Boxed w' wd.heap.size 24 (.int .u64 r) ∧ Boxed w' (wd.heap.size + 1) 24 (.int .u64 lv))
          refine ⟨((hk.trans (KeepsOthers.setCell _ _ _)).trans (KeepsOthers.setCell _ _ _)).from _, ?_, ?_, ?_, ?_, ?_, ?_⟩
          · exact ((h.b.trans (hs.to_below h.b.size (fun _ _ h => h))).setCell (p := ⟨wd.heap.size + 1, 0, none⟩) (by show w.heap.size ≤ wd.heap.size + 1; omega) _).setCell (p := ⟨wd.heap.size, 0, none⟩) (by show w.heap.size ≤ wd.heap.size; omega) _
          · exact boxed_setCell (boxed_setCell z1 (a := ⟨wd.heap.size + 1, 0, none⟩) (by show w.heap.size ≠ wd.heap.size + 1; omega) _) (a := ⟨wd.heap.size, 0, none⟩) (by show w.heap.size ≠ wd.heap.size; omega) _
          · exact boxed_setCell (boxed_setCell z2 (a := ⟨wd.heap.size + 1, 0, none⟩) (by show w.heap.size + 1 ≠ wd.heap.size + 1; omega) _) (a := ⟨wd.heap.size, 0, none⟩) (by show w.heap.size + 1 ≠ wd.heap.size; omega) _
          · exact boxed_setCell (boxed_setCell z3 (a := ⟨wd.heap.size + 1, 0, none⟩) (by show w.heap.size + 1 + 1 ≠ wd.heap.size + 1; omega) _) (a := ⟨wd.heap.size, 0, none⟩) (by show w.heap.size + 1 + 1 ≠ wd.heap.size; omega) _
          · exact (boxed_setCell z4 (a := ⟨wd.heap.size + 1, 0, none⟩) (by show wd.heap.size ≠ wd.heap.size + 1; omega) _).set _
          · rw [if_neg (by omega), Nat.add_sub_cancel, ← HSV.out]
            exact boxed_setCell (z5.set _) (a := ⟨wd.heap.size, 0, none⟩) (by show wd.heap.size + 1 ≠ wd.heap.size; omega) _)
        generalize Value.tuple #[Value.int .u64 M, Value.int .i64 0] = u1
        generalize Value.tuple #[Value.int .u64 m1, Value.int .i64 0] = u2
        generalize Value.tuple #[Value.int .u64 m2, Value.int .i64 0] = u3
        generalize Value.bool (decide ((N : Int) < 1) || decide (64 < (N : Int)) || decide ((K : Int) < 1)) = u4
        generalize Value.bool (decide ((N : Int) < 1) || decide (64 < (N : Int))) = u5
        generalize Value.bool (decide (64 < (N : Int))) = u6
        generalize Value.bool (decide ((N : Int) < 1)) = u7
        generalize Value.bool (decide ((K : Int) < 1)) = u8
        generalize Value.int .u64 m1 = u9
        generalize Value.int .u64 m2 = u10
        clear hm hr hS k1 k2 hz hlv hsv hbl h x1 x2 x3 x4 x5 Y1 Y2 Y3 Y4 Y5 Y6 Y7 Y8 HM HN1 w1' w2' w3' w1'' w2'' w3'' w4 HF1 HS1 HS2 HS3 HS4 HS5 HSZ HB0 hbig hbig2 c3 f3 hwds hsz hsf HHR HHB HSV hcu g1 g2 g3 g4 n1 n2 n3 n4 hlast hsu
        simp only [Nat.reduceSub]
        have hmix : Tryd.prog.follows .mixedOrders = true := by kernel_rfl
        gi_wp2
        gi_region_with_o (first
          | (refine ⟨trivial, ?_⟩; gi_at_call 20; refine (CN.out _).mono ?_; rintro e w' ⟨rfl, rfl⟩)
          | (gi_at_call 20; refine (CN.out _).mono ?_; rintro e w' ⟨rfl, rfl⟩)
          | (refine ⟨trivial, ?_⟩; gi_at_call 14; refine (CB.out _).mono ?_; rintro e w' ⟨rfl, rfl⟩)
          | (gi_at_call 14; refine (CB.out _).mono ?_; rintro e w' ⟨rfl, rfl⟩)
          | (refine ⟨trivial, ?_⟩; gi_at_call 21; refine (CR.out W.drew HPW.out HTW.out).mono ?_; rintro e w' ⟨rfl, hb⟩; have hsm : Same W w' := (((Frm.refl _ W).drew).trans (Frm.of_below hb _) (fun _ _ h => h)); have c1 := (XX.out w' hsm).1.cell; have c2 := (XX.out w' hsm).2.1.cell; have c4 := (XX.out w' hsm).2.2.2.1.cell; have c5 := (XX.out w' hsm).2.2.2.2.cell; have f4 := (XX.out w' hsm).2.2.2.1.frozen; have f5 := (XX.out w' hsm).2.2.2.2.frozen; have HSM := Lib.hid hsm; clear hsm hb)
          | (gi_at_call 21; refine (CR.out W.drew HPW.out HTW.out).mono ?_; rintro e w' ⟨rfl, hb⟩; have hsm : Same W w' := (((Frm.refl _ W).drew).trans (Frm.of_below hb _) (fun _ _ h => h)); have c1 := (XX.out w' hsm).1.cell; have c2 := (XX.out w' hsm).2.1.cell; have c4 := (XX.out w' hsm).2.2.2.1.cell; have c5 := (XX.out w' hsm).2.2.2.2.cell; have f4 := (XX.out w' hsm).2.2.2.1.frozen; have f5 := (XX.out w' hsm).2.2.2.2.frozen; have HSM := Lib.hid hsm; clear hsm hb))
        all_goals (try simp only [Exit.then])
        all_goals gi_wp2
        all_goals (try simp only [Exit.inBlock])
        all_goals exact hfin.out _ _ HSM.out
end Go.Proofs.YtekocjnmlgiceaaDoor


/- Masks: from the listed table to the walks' condition; a world that meets it. -/
namespace Go.Proofs.YtekocjnmlgiceaaDoor
open Go.RowKit Go.Tk Go.Shelf Go.ChangeShapes Go.WideShapes

theorem tab_gn : Tryd.prog.globalNamed "math/bits.deBruijn64tab" = some 0 := by kernel_rfl
theorem tab_of_laid {W : World} (h : laidMetH Tryd.prog [("math/bits.deBruijn64tab", Rows.laid_math_bits_deBruijn64tab)] W) : Tab64 W := by
  have h' : laidMet Tryd.prog [("math/bits.deBruijn64tab", Lib.tabData .u8 (Lib.deBruijn64tab.map fun (x : Nat) => (x : Int)))] W := h
  have hT := Lib.tabIs_of_head (n := 64) tab_gn (show (Tryd.prog.globals[0]?).map (·.type) = some 64 by kernel_rfl) (show Tryd.prog.underlying 64 = some (.array 64 5) by kernel_rfl) (show Tryd.prog.underlying 5 = some (.int .u8) by kernel_rfl) (by kernel_rfl) (by kernel_rfl) h'
  intro j hj
  have h1 := hT.cell tab_gn j (by rw [List.length_map]; exact hj)
  rw [h1]
  simp [List.getD, List.getElem?_map, List.getElem?_eq_getElem hj]
theorem tab_pos {W : World} (h : Tab64 W) : 0 < W.heap.size := by
  have h1 := h 0 (by decide)
  unfold World.cell? at h1
  rcases Nat.eq_zero_or_pos W.heap.size with h0 | h0
  · rw [Array.getElem?_eq_none (by simp only [h0]; exact Nat.le_refl _)] at h1
    simp at h1
  · exact h0
theorem ownK : ownKnob Tryd.prog.godebug = none := by kernel_rfl
theorem laidOutK : laidOutB Tryd.prog = true := by kernel_rfl
noncomputable def laidWorld (os : Os) : World :=
  let w0 := World.holding Tryd.prog os ⟨#[], #[], []⟩
  { w0 with heap := w0.heap.modify 0 fun
      | .cells _ t frozen => .cells #[.int .u8 0, .int .u8 1, .int .u8 56, .int .u8 2, .int .u8 57, .int .u8 49, .int .u8 28, .int .u8 3, .int .u8 61, .int .u8 58, .int .u8 42, .int .u8 50, .int .u8 38, .int .u8 29, .int .u8 17, .int .u8 4, .int .u8 62, .int .u8 47, .int .u8 59, .int .u8 36, .int .u8 45, .int .u8 43, .int .u8 51, .int .u8 22, .int .u8 53, .int .u8 39, .int .u8 33, .int .u8 30, .int .u8 24, .int .u8 18, .int .u8 12, .int .u8 5, .int .u8 63, .int .u8 55, .int .u8 48, .int .u8 27, .int .u8 60, .int .u8 41, .int .u8 37, .int .u8 16, .int .u8 46, .int .u8 35, .int .u8 44, .int .u8 21, .int .u8 52, .int .u8 32, .int .u8 23, .int .u8 11, .int .u8 54, .int .u8 26, .int .u8 40, .int .u8 15, .int .u8 34, .int .u8 20, .int .u8 31, .int .u8 10, .int .u8 25, .int .u8 14, .int .u8 19, .int .u8 9, .int .u8 13, .int .u8 8, .int .u8 7, .int .u8 6] t frozen
      | o => o }
theorem laidWorld_met (os : Os) (args : Array Value) : laidMetH Tryd.prog [("math/bits.deBruijn64tab", Rows.laid_math_bits_deBruijn64tab)] ((laidWorld os).forCall (fun _ _ => 0) ⟨#[], args, []⟩).memory :=
  laidMetH_of_parts (laidMet_of_run' 8 (by kernel_rfl) (by kernel_rfl)) (by kernel_rfl)
end Go.Proofs.YtekocjnmlgiceaaDoor
