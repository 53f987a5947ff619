/- Contracts and plain laws, put together in one file. No condition. -/
import Derived.Test.YtlggmoghgoeiiaaJTruths4
import Derived.Test.YtlggmoghgoeiiaaRows

/- Truth tables: TruthLaws: the walk. -/
namespace Go.Tk
open Go.RowKit Go.Sort
theorem effStep_off {P : Program} {ops : Array Oper} {C : World → Prop} {o : Oper} {a : Act} {w : World} {K : Act → World → Prop} (hg : Region.wanted o (yielded ops a.tmps) = false)
    (h : K (a.put o.dst undef) w) : effStep P ops C o a w K := by
  unfold effStep
  rw [if_neg (by rw [hg]; decide)]
  exact h
end Go.Tk
namespace Go.Proofs.Ytlggmoghgoeiiaa
open Go.RowKit Go.Tk

set_option maxRecDepth 100000 in
set_option maxHeartbeats 16000000 in
theorem laws_short (op : Nat) (Al : Option Addr) (Ln Cl : Nat) (w : World) (h3 : Ln < 3) : Calls Try.prog 7 #[.int .u8 op, .slice Al Ln Cl] w fun e w' => e = .returned (.bool true) ∧ Below w.heap.size w w' := by
  have h3' : (Ln : Int) < 3 := by omega
  go_enter Try.func7, Try.ntmps7
  go_wp2_with (fail)
  refine (awake_any w).mono ?_
  rintro e w2 ⟨rfl, hs12⟩
  have HS := Lib.hid hs12
  clear hs12
  go_upto_region 3 with fail
  refine wp_phS (fun _ => False) [([0, 1, 2, 3, 4, 5, 6, 7, 8, 9, 10, 11, 12], 13), ([], 14), ([15, 16, 17, 18, 19], 20)] (by kernel_rfl) (by kernel_rfl) ?_
  simp only [wpPh, pick, List.map_cons, List.map_nil, List.getD_cons_zero, List.getD_cons_succ]
  have hs : Same w2 w2.drew := (Frm.refl _ _).drew
  repeat (any_goals (first | go_big_quiet_step (fail) | quiet_step (fail)))
  refine wpQuiet_nil ?_
  refine effStep_off (by rfl) ?_
  repeat (any_goals (first | go_big_quiet_step (fail) | quiet_step (fail)))
  refine wpQuiet_nil ?_
  refine effStep_off (by rfl) ?_
  repeat (any_goals (first | go_big_quiet_step (fail) | quiet_step (fail)))
  refine wpQuiet_nil ?_
  replace HS := Lib.hid (HS.out.trans hs (fun _ _ h => h))
  go_wp2
  go_ret
  exact ⟨rfl, HS.out.to_below (Nat.le_refl _) (fun _ _ => id)⟩
set_option maxRecDepth 100000 in
set_option maxHeartbeats 16000000 in
theorem laws_unform (op bl off Ln Cl : Nat) (Na : Int) (Aa : Option Addr) (Ca : Nat) (wsa : List Nat) (Nb : Int) (Ab : Option Addr) (Cb : Nat) (wsb : List Nat) (Nc : Int) (Ac : Option Addr) (Cc : Nat) (wsc : List Nat) (w : World) (hLn : 3 ≤ Ln) (hbl : bl < w.heap.size) (ha : TbIn w ⟨Na, Aa, Ca, wsa⟩) (hb : TbIn w ⟨Nb, Ab, Cb, wsb⟩) (hc : TbIn w ⟨Nc, Ac, Cc, wsc⟩) (la0 : w.cell? ⟨bl, off, none⟩ = some (.int .i64 Na)) (la1 : w.cell? ⟨bl, off + 1, none⟩ = some (.slice Aa wsa.length Ca)) (lb0 : w.cell? ⟨bl, off + 2, none⟩ = some (.int .i64 Nb)) (lb1 : w.cell? ⟨bl, off + 3, none⟩ = some (.slice Ab wsb.length Cb)) (lc0 : w.cell? ⟨bl, off + 4, none⟩ = some (.int .i64 Nc)) (lc1 : w.cell? ⟨bl, off + 5, none⟩ = some (.slice Ac wsc.length Cc)) (hfr : fm [⟨Na, Aa, Ca, wsa⟩, ⟨Nb, Ab, Cb, wsb⟩, ⟨Nc, Ac, Cc, wsc⟩] = false) : Calls Try.prog 7 #[.int .u8 op, .slice (some ⟨bl, off, none⟩) Ln Cl] w fun e w' => e = .returned (.bool true) ∧ Below w.heap.size w w' := by
  have Ha := Lib.hid ha
  have HLa0 := Lib.hid la0
  have HLa1 := Lib.hid la1
  have Hb := Lib.hid hb
  have HLb0 := Lib.hid lb0
  have HLb1 := Lib.hid lb1
  have Hc := Lib.hid hc
  have HLc0 := Lib.hid lc0
  have HLc1 := Lib.hid lc1
  clear ha hb hc la0 la1 lb0 lb1 lc0 lc1
  have hL0 : (0 : Int) < Ln := by omega
  have hL1 : (1 : Int) < Ln := by omega
  have hL2 : (2 : Int) < Ln := by omega
  have hL3 : ¬ (Ln : Int) < 3 := by omega
  have hL4 : ¬ Ln < 3 := by omega
  have hdL : decide ((Ln : Int) < 3) = false := decide_eq_false hL3
  have HFM := Lib.hid hfr
  clear hfr
  go_enter Try.func7, Try.ntmps7
  go_wp2_with (fail)
  refine (awake_any w).mono ?_
  rintro e w2 ⟨rfl, hs12⟩
  have HS := Lib.hid hs12
  clear hs12
  have la0 : w2.cell? ⟨bl, off, none⟩ = some (.int .i64 Na) := ((HS.out).cell (p := ⟨bl, off, none⟩) hbl id).trans HLa0.out
  have la1 : w2.cell? ⟨bl, off + 1, none⟩ = some (.slice Aa wsa.length Ca) := ((HS.out).cell (p := ⟨bl, off + 1, none⟩) hbl id).trans HLa1.out
  have lb0 : w2.cell? ⟨bl, off + 2, none⟩ = some (.int .i64 Nb) := ((HS.out).cell (p := ⟨bl, off + 2, none⟩) hbl id).trans HLb0.out
  have lb1 : w2.cell? ⟨bl, off + 3, none⟩ = some (.slice Ab wsb.length Cb) := ((HS.out).cell (p := ⟨bl, off + 3, none⟩) hbl id).trans HLb1.out
  have lc0 : w2.cell? ⟨bl, off + 4, none⟩ = some (.int .i64 Nc) := ((HS.out).cell (p := ⟨bl, off + 4, none⟩) hbl id).trans HLc0.out
  have lc1 : w2.cell? ⟨bl, off + 5, none⟩ = some (.slice Ac wsc.length Cc) := ((HS.out).cell (p := ⟨bl, off + 5, none⟩) hbl id).trans HLc1.out
  have lbl := Nat.lt_of_lt_of_le hbl (HS.out).size
  go_upto_region 3 with fail
  refine wp_phS (fun _ => False) [([0, 1, 2, 3, 4, 5, 6, 7, 8, 9, 10, 11, 12], 13), ([], 14), ([15, 16, 17, 18, 19], 20)] (by kernel_rfl) (by kernel_rfl) ?_
  simp only [wpPh, pick, List.map_cons, List.map_nil, List.getD_cons_zero, List.getD_cons_succ]
  have hs : Same w2 w2.drew := (Frm.refl _ _).drew
  repeat (any_goals (first | go_big_quiet_step (fail) | quiet_step (fail)))
  refine wpQuiet_nil ?_
  refine effStep_on (by rfl) fun K hK => ?_
  go_simp
  have hs2 := Frm.alloc hs (.cells #[.int .i64 Na, .slice Aa wsa.length Ca, .int .i64 Nb, .slice Ab wsb.length Cb, .int .i64 Nc, .slice Ac wsc.length Cc] 24)
  refine hK _ _ (Lat.mk_ (Frm.mono hs2 (fun _ _ h => h.elim))) ?_
  clear hK K
  repeat (any_goals (first | go_big_quiet_step (fail) | quiet_step (fail)))
  refine wpQuiet_nil ?_
  refine effStep_on (by rfl) fun K hK => ?_
  go_simp
  refine call_world fun wl hwl => ?_
  have hsl : Same w2 wl := by rw [hwl]; exact hs2
  have hBL : Blk wl w2.heap.size 24 #[.int .i64 Na, .slice Aa wsa.length Ca, .int .i64 Nb, .slice Ab wsb.length Cb, .int .i64 Nc, .slice Ac wsc.length Cc] := by rw [hwl]; exact Blk.new _ _ _
  have htbs : Tbs wl w2.heap.size [⟨Na, Aa, Ca, wsa⟩, ⟨Nb, Ab, Cb, wsb⟩, ⟨Nc, Ac, Cc, wsc⟩] := by
    intro i t hi
    match i, hi with
    | 0, hi =>
      simp only [List.getElem?_cons_zero, Option.some.injEq] at hi
      subst hi
      exact ⟨hBL.lt, hBL.cell 0, hBL.cell 1⟩
    | 1, hi =>
      simp only [List.getElem?_cons_zero, List.getElem?_cons_succ, Option.some.injEq] at hi
      subst hi
      exact ⟨hBL.lt, hBL.cell 2, hBL.cell 3⟩
    | 2, hi =>
      simp only [List.getElem?_cons_zero, List.getElem?_cons_succ, Option.some.injEq] at hi
      subst hi
      exact ⟨hBL.lt, hBL.cell 4, hBL.cell 5⟩
    | i + 3, hi => simp at hi
  have hfc := good_any w2.heap.size 3 3 [⟨Na, Aa, Ca, wsa⟩, ⟨Nb, Ab, Cb, wsb⟩, ⟨Nc, Ac, Cc, wsc⟩] wl rfl (by decide) htbs (fun t ht => by
    simp only [List.mem_cons, List.not_mem_nil, or_false] at ht
    rcases ht with rfl | rfl | rfl
    · exact (Ha.out.ok.same (HS.out.trans hsl (fun _ _ h => h)))
    · exact (Hb.out.ok.same (HS.out.trans hsl (fun _ _ h => h)))
    · exact (Hc.out.ok.same (HS.out.trans hsl (fun _ _ h => h))))
  rw [HFM.out] at hfc
  refine hfc.mono ?_
  clear hfc htbs hBL hwl
  rintro e w4 ⟨rfl, hsm⟩
  have hs := hsl.trans hsm (fun _ _ h => h)
  clear hsl hsm hs2
  refine hK _ _ (Lat.mk_ (Frm.mono hs (fun _ _ h => h.elim))) ?_
  clear hK K
  clear la0 la1 lb0 lb1 lc0 lc1 lbl
  replace HS := Lib.hid (HS.out.trans hs (fun _ _ h => h))
  clear hs
  repeat (any_goals (first | go_big_quiet_step (fail) | quiet_step (fail)))
  refine wpQuiet_nil ?_
  go_wp2
  go_ret
  exact ⟨rfl, HS.out.to_below (Nat.le_refl _) (fun _ _ => id)⟩
set_option maxRecDepth 100000 in
set_option maxHeartbeats 16000000 in
theorem laws_op (op bl off Ln Cl : Nat) (Na : Int) (Aa : Option Addr) (Ca : Nat) (wsa : List Nat) (Nb : Int) (Ab : Option Addr) (Cb : Nat) (wsb : List Nat) (Nc : Int) (Ac : Option Addr) (Cc : Nat) (wsc : List Nat) (w : World) (hopl : op < 256) (hLn : 3 ≤ Ln) (hbl : bl < w.heap.size) (ha : TbIn w ⟨Na, Aa, Ca, wsa⟩) (hb : TbIn w ⟨Nb, Ab, Cb, wsb⟩) (hc : TbIn w ⟨Nc, Ac, Cc, wsc⟩) (la0 : w.cell? ⟨bl, off, none⟩ = some (.int .i64 Na)) (la1 : w.cell? ⟨bl, off + 1, none⟩ = some (.slice Aa wsa.length Ca)) (lb0 : w.cell? ⟨bl, off + 2, none⟩ = some (.int .i64 Nb)) (lb1 : w.cell? ⟨bl, off + 3, none⟩ = some (.slice Ab wsb.length Cb)) (lc0 : w.cell? ⟨bl, off + 4, none⟩ = some (.int .i64 Nc)) (lc1 : w.cell? ⟨bl, off + 5, none⟩ = some (.slice Ac wsc.length Cc)) (hfr : fm [⟨Na, Aa, Ca, wsa⟩, ⟨Nb, Ab, Cb, wsb⟩, ⟨Nc, Ac, Cc, wsc⟩] = true) (h15 : 15 < op) : Calls Try.prog 7 #[.int .u8 op, .slice (some ⟨bl, off, none⟩) Ln Cl] w fun e w' => e = .returned (.bool true) ∧ Below w.heap.size w w' := by
  have Ha := Lib.hid ha
  have HLa0 := Lib.hid la0
  have HLa1 := Lib.hid la1
  have Hb := Lib.hid hb
  have HLb0 := Lib.hid lb0
  have HLb1 := Lib.hid lb1
  have Hc := Lib.hid hc
  have HLc0 := Lib.hid lc0
  have HLc1 := Lib.hid lc1
  clear ha hb hc la0 la1 lb0 lb1 lc0 lc1
  have hL0 : (0 : Int) < Ln := by omega
  have hL1 : (1 : Int) < Ln := by omega
  have hL2 : (2 : Int) < Ln := by omega
  have hL3 : ¬ (Ln : Int) < 3 := by omega
  have hL4 : ¬ Ln < 3 := by omega
  have hdL : decide ((Ln : Int) < 3) = false := decide_eq_false hL3
  have h15' : (op : Int) > 15 := by omega
  have HFM := Lib.hid hfr
  clear hfr
  go_enter Try.func7, Try.ntmps7
  go_wp2_with (fail)
  refine (awake_any w).mono ?_
  rintro e w2 ⟨rfl, hs12⟩
  have HS := Lib.hid hs12
  clear hs12
  have la0 : w2.cell? ⟨bl, off, none⟩ = some (.int .i64 Na) := ((HS.out).cell (p := ⟨bl, off, none⟩) hbl id).trans HLa0.out
  have la1 : w2.cell? ⟨bl, off + 1, none⟩ = some (.slice Aa wsa.length Ca) := ((HS.out).cell (p := ⟨bl, off + 1, none⟩) hbl id).trans HLa1.out
  have lb0 : w2.cell? ⟨bl, off + 2, none⟩ = some (.int .i64 Nb) := ((HS.out).cell (p := ⟨bl, off + 2, none⟩) hbl id).trans HLb0.out
  have lb1 : w2.cell? ⟨bl, off + 3, none⟩ = some (.slice Ab wsb.length Cb) := ((HS.out).cell (p := ⟨bl, off + 3, none⟩) hbl id).trans HLb1.out
  have lc0 : w2.cell? ⟨bl, off + 4, none⟩ = some (.int .i64 Nc) := ((HS.out).cell (p := ⟨bl, off + 4, none⟩) hbl id).trans HLc0.out
  have lc1 : w2.cell? ⟨bl, off + 5, none⟩ = some (.slice Ac wsc.length Cc) := ((HS.out).cell (p := ⟨bl, off + 5, none⟩) hbl id).trans HLc1.out
  have lbl := Nat.lt_of_lt_of_le hbl (HS.out).size
  go_upto_region 3 with fail
  refine wp_phS (fun _ => False) [([0, 1, 2, 3, 4, 5, 6, 7, 8, 9, 10, 11, 12], 13), ([], 14), ([15, 16, 17, 18, 19], 20)] (by kernel_rfl) (by kernel_rfl) ?_
  simp only [wpPh, pick, List.map_cons, List.map_nil, List.getD_cons_zero, List.getD_cons_succ]
  have hs : Same w2 w2.drew := (Frm.refl _ _).drew
  repeat (any_goals (first | go_big_quiet_step (fail) | quiet_step (fail)))
  refine wpQuiet_nil ?_
  refine effStep_on (by rfl) fun K hK => ?_
  go_simp
  have hs2 := Frm.alloc hs (.cells #[.int .i64 Na, .slice Aa wsa.length Ca, .int .i64 Nb, .slice Ab wsb.length Cb, .int .i64 Nc, .slice Ac wsc.length Cc] 24)
  refine hK _ _ (Lat.mk_ (Frm.mono hs2 (fun _ _ h => h.elim))) ?_
  clear hK K
  repeat (any_goals (first | go_big_quiet_step (fail) | quiet_step (fail)))
  refine wpQuiet_nil ?_
  refine effStep_on (by rfl) fun K hK => ?_
  go_simp
  refine call_world fun wl hwl => ?_
  have hsl : Same w2 wl := by rw [hwl]; exact hs2
  have hBL : Blk wl w2.heap.size 24 #[.int .i64 Na, .slice Aa wsa.length Ca, .int .i64 Nb, .slice Ab wsb.length Cb, .int .i64 Nc, .slice Ac wsc.length Cc] := by rw [hwl]; exact Blk.new _ _ _
  have htbs : Tbs wl w2.heap.size [⟨Na, Aa, Ca, wsa⟩, ⟨Nb, Ab, Cb, wsb⟩, ⟨Nc, Ac, Cc, wsc⟩] := by
    intro i t hi
    match i, hi with
    | 0, hi =>
      simp only [List.getElem?_cons_zero, Option.some.injEq] at hi
      subst hi
      exact ⟨hBL.lt, hBL.cell 0, hBL.cell 1⟩
    | 1, hi =>
      simp only [List.getElem?_cons_zero, List.getElem?_cons_succ, Option.some.injEq] at hi
      subst hi
      exact ⟨hBL.lt, hBL.cell 2, hBL.cell 3⟩
    | 2, hi =>
      simp only [List.getElem?_cons_zero, List.getElem?_cons_succ, Option.some.injEq] at hi
      subst hi
      exact ⟨hBL.lt, hBL.cell 4, hBL.cell 5⟩
    | i + 3, hi => simp at hi
  have hfc := good_any w2.heap.size 3 3 [⟨Na, Aa, Ca, wsa⟩, ⟨Nb, Ab, Cb, wsb⟩, ⟨Nc, Ac, Cc, wsc⟩] wl rfl (by decide) htbs (fun t ht => by
    simp only [List.mem_cons, List.not_mem_nil, or_false] at ht
    rcases ht with rfl | rfl | rfl
    · exact (Ha.out.ok.same (HS.out.trans hsl (fun _ _ h => h)))
    · exact (Hb.out.ok.same (HS.out.trans hsl (fun _ _ h => h)))
    · exact (Hc.out.ok.same (HS.out.trans hsl (fun _ _ h => h))))
  rw [HFM.out] at hfc
  refine hfc.mono ?_
  clear hfc htbs hBL hwl
  rintro e w4 ⟨rfl, hsm⟩
  have hs := hsl.trans hsm (fun _ _ h => h)
  clear hsl hsm hs2
  refine hK _ _ (Lat.mk_ (Frm.mono hs (fun _ _ h => h.elim))) ?_
  clear hK K
  clear la0 la1 lb0 lb1 lc0 lc1 lbl
  replace HS := Lib.hid (HS.out.trans hs (fun _ _ h => h))
  clear hs
  repeat (any_goals (first | go_big_quiet_step (fail) | quiet_step (fail)))
  refine wpQuiet_nil ?_
  go_wp2
  go_ret
  exact ⟨rfl, HS.out.to_below (Nat.le_refl _) (fun _ _ => id)⟩
end Go.Proofs.Ytlggmoghgoeiiaa

/- Truth tables: what TruthLaws asks, plain. -/
namespace Go.Proofs.Ytlggmoghgoeiiaa
open Go.RowKit Go.Tk

theorem lw_nn {n : Nat} {a : List Nat} (hf : FormN n a) (hb : Small a) : tab n (notF (tab n (notF a))) = a := by
  refine Eq.trans (tab_congr fun i hi => ?_) (tab_vb hf hb)
  show (!vb (tab n (notF a)) i) = vb a i
  rw [vb_tab hi]
  unfold notF
  cases vb a i <;> rfl
theorem lw_dm (n : Nat) (a b : List Nat) : tab n (binF 14 (tab n (notF a)) (tab n (notF b))) = tab n (notF (tab n (binF 8 a b))) := tab_congr fun i hi => by
  show binF 14 (tab n (notF a)) (tab n (notF b)) i = !vb (tab n (binF 8 a b)) i
  rw [vb_tab hi]
  unfold binF
  rw [vb_tab hi, vb_tab hi]
  unfold notF
  cases vb a i <;> cases vb b i <;> decide
theorem lw_ite (n : Nat) (a b c : List Nat) : tab n (binF 14 (tab n (binF 8 a b)) (tab n (binF 8 (tab n (notF a)) c))) = tab n (iteF a b c) := tab_congr fun i hi => by
  unfold binF
  rw [vb_tab hi, vb_tab hi, vb_tab hi]
  unfold notF iteF
  cases vb a i <;> cases vb b i <;> cases vb c i <;> decide
theorem lw_xor (n : Nat) (a b : List Nat) : tab n (binF 14 (tab n (binF 8 a (tab n (notF b)))) (tab n (binF 8 (tab n (notF a)) b))) = tab n (binF 6 a b) := tab_congr fun i hi => by
  unfold binF
  rw [vb_tab hi, vb_tab hi, vb_tab hi, vb_tab hi]
  unfold notF
  cases vb a i <;> cases vb b i <;> decide
/-- which of the four rows of an operation the values make -/
def rowI (a b : List Nat) (i : Nat) : Nat := (if vb a i then 2 else 0) + (if vb b i then 1 else 0)
theorem rowI_lt (a b : List Nat) (i : Nat) : rowI a b i < 4 := by unfold rowI; cases vb a i <;> cases vb b i <;> decide
/-- the rows below k, summed up -/
def sumF (op : Nat) (a b : List Nat) (k : Nat) : Nat → Bool := fun i => decide (rowI a b i < k) && op.testBit (rowI a b i)
theorem lw_zero (n op : Nat) (a b : List Nat) : tab n (fun _ => false) = tab n (sumF op a b 0) := tab_congr fun i _ => by unfold sumF; simp
theorem lw_four (n op : Nat) (a b : List Nat) : tab n (binF op a b) = tab n (sumF op a b 4) := tab_congr fun i _ => by
  unfold sumF binF
  rw [decide_eq_true (rowI_lt a b i), Bool.true_and]
  rfl
theorem lw_skip (n : Nat) {op : Nat} (a b : List Nat) {k : Nat} (h : op.testBit k = false) : tab n (sumF op a b k) = tab n (sumF op a b (k + 1)) := tab_congr fun i _ => by
  unfold sumF
  by_cases hk : rowI a b i = k
  · rw [hk, h]; simp
  · have : (rowI a b i < k) = (rowI a b i < k + 1) := by simp only [eq_iff_iff]; omega
    simp only [this]
/-- a table given back or turned -/
def litT (n : Nat) (p : Bool) (a : List Nat) : List Nat := if p then a else tab n (notF a)
theorem vb_lit {n : Nat} {p : Bool} {a : List Nat} {i : Nat} (hi : i < 2 ^ n) : vb (litT n p a) i = (vb a i == p) := by
  unfold litT
  cases p
  · rw [if_neg (by decide), vb_tab hi]; unfold notF; cases vb a i <;> rfl
  · rw [if_pos rfl]; cases vb a i <;> rfl
theorem tb14 (x : Bool) : Nat.testBit 14 (if x = true then 2 else 0) = x := by cases x <;> decide
theorem lw_step (n : Nat) {op : Nat} (a b : List Nat) {k : Nat} (p q : Bool) (hk : k = (if p then 2 else 0) + (if q then 1 else 0)) (h : op.testBit k = true) :
    tab n (binF 14 (tab n (sumF op a b k)) (tab n (binF 8 (litT n p a) (litT n q b)))) = tab n (sumF op a b (k + 1)) := tab_congr fun i hi => by
  unfold binF
  rw [vb_tab hi, vb_tab hi, vb_lit hi, vb_lit hi]
  unfold sumF rowI
  subst hk
  have e3 : Nat.testBit 8 3 = true := by decide
  have e2 : Nat.testBit 8 2 = false := by decide
  have e1 : Nat.testBit 8 1 = false := by decide
  have e0 : Nat.testBit 8 0 = false := by decide
  have f3 : Nat.testBit 14 3 = true := by decide
  have f2 : Nat.testBit 14 2 = true := by decide
  have f1 : Nat.testBit 14 1 = true := by decide
  have f0 : Nat.testBit 14 0 = false := by decide
  have key1 : ∀ x : Bool, Nat.testBit 14 ((if x = true then 2 else 0) + 1) = true := by intro x; cases x <;> decide
  cases vb a i <;> cases vb b i <;> cases p <;> cases q <;> simp_all [-Nat.testBit_zero, tb14]
end Go.Proofs.Ytlggmoghgoeiiaa

/- Truth tables: TruthLaws: the walk. -/
namespace Go.Proofs.Ytlggmoghgoeiiaa
open Go.RowKit Go.Tk

/-- three blocks made beside one another -/
theorem three_made (u : World) (x y z : Array Value) : Blk (((u.alloc (.cells x 24)).alloc (.cells y 24)).alloc (.cells z 24)).drew u.heap.size 24 x ∧ Blk (((u.alloc (.cells x 24)).alloc (.cells y 24)).alloc (.cells z 24)).drew (u.heap.size + 1) 24 y ∧
    Blk (((u.alloc (.cells x 24)).alloc (.cells y 24)).alloc (.cells z 24)).drew (u.heap.size + 1 + 1) 24 z ∧ Same u (((u.alloc (.cells x 24)).alloc (.cells y 24)).alloc (.cells z 24)).drew := by
  refine ⟨((Blk.new u _ _).alloc _).alloc _, ?_, ?_, ((((Frm.refl _ _).alloc _).alloc _).alloc _).drew⟩
  · have := (Blk.new (u.alloc (.cells x 24)) 24 y).alloc (.cells z 24)
    rw [World.size_alloc] at this
    exact this
  · have := Blk.new ((u.alloc (.cells x 24)).alloc (.cells y 24)) 24 z
    rw [World.size_alloc, World.size_alloc] at this
    exact this
theorem WL.turn {u u' : World} {S : Nat → Prop} {A : Option Addr} {m : Nat} {ws : List Nat} (h : WL u A m ws) (hf : Frm S u u') (hne : ∀ a, A = some a → ¬ S a.block) : WL u' A m ws :=
  ⟨h.len, fun i x hi => by
    obtain ⟨b, o, hA, hb, hc⟩ := h.get i x hi
    have hn := hne _ hA
    exact ⟨b, o, hA, Nat.lt_of_lt_of_le hb hf.size, fun j hj => ((hf.cell (p := ⟨b, o + i * 1 + j, none⟩) hb hn)).trans (hc j hj)⟩⟩
theorem two_made2 (u : World) (x y : Array Value) : Blk ((u.alloc (.cells x 24)).alloc (.cells y 24)).drew u.heap.size 24 x ∧ Blk ((u.alloc (.cells x 24)).alloc (.cells y 24)).drew (u.heap.size + 1) 24 y ∧
    Same u ((u.alloc (.cells x 24)).alloc (.cells y 24)).drew := by
  refine ⟨(Blk.new u _ _).alloc _, ?_, (((Frm.refl _ _).alloc _).alloc _).drew⟩
  have := Blk.new (u.alloc (.cells x 24)) 24 y
  rw [World.size_alloc] at this
  exact this
theorem op_bit0 {op : Nat} (h : op ≤ 15) : (bits .and .u8 (op : Int) 1 == 0) = !op.testBit 0 := (show ∀ (o : Fin 16), (bits .and .u8 ((o : Nat) : Int) 1 == 0) = !(o : Nat).testBit 0 by decide) ⟨op, by omega⟩
theorem op_bit1 {op : Nat} (h : op ≤ 15) : (bits .and .u8 ((op : Int) / 2) 1 == 0) = !op.testBit 1 := (show ∀ (o : Fin 16), (bits .and .u8 (((o : Nat) : Int) / 2) 1 == 0) = !(o : Nat).testBit 1 by decide) ⟨op, by omega⟩
theorem op_bit2 {op : Nat} (h : op ≤ 15) : (bits .and .u8 ((op : Int) / 4) 1 == 0) = !op.testBit 2 := (show ∀ (o : Fin 16), (bits .and .u8 (((o : Nat) : Int) / 4) 1 == 0) = !(o : Nat).testBit 2 by decide) ⟨op, by omega⟩
theorem op_bit3 {op : Nat} (h : op ≤ 15) : (bits .and .u8 ((op : Int) / 8) 1 == 0) = !op.testBit 3 := (show ∀ (o : Fin 16), (bits .and .u8 (((o : Nat) : Int) / 8) 1 == 0) = !(o : Nat).testBit 3 by decide) ⟨op, by omega⟩
set_option maxRecDepth 100000 in
set_option maxHeartbeats 16000000 in
theorem laws_main (op bl off Ln Cl : Nat) (n : Nat) (Aa : Option Addr) (Ca : Nat) (wsa : List Nat) (Ab : Option Addr) (Cb : Nat) (wsb : List Nat) (Ac : Option Addr) (Cc : Nat) (wsc : List Nat) (w : World) (hopl : op < 256) (hLn : 3 ≤ Ln) (hbl : bl < w.heap.size) (ha : TbIn w ⟨n, Aa, Ca, wsa⟩) (hb : TbIn w ⟨n, Ab, Cb, wsb⟩) (hc : TbIn w ⟨n, Ac, Cc, wsc⟩) (la0 : w.cell? ⟨bl, off, none⟩ = some (.int .i64 n)) (la1 : w.cell? ⟨bl, off + 1, none⟩ = some (.slice Aa wsa.length Ca)) (lb0 : w.cell? ⟨bl, off + 2, none⟩ = some (.int .i64 n)) (lb1 : w.cell? ⟨bl, off + 3, none⟩ = some (.slice Ab wsb.length Cb)) (lc0 : w.cell? ⟨bl, off + 4, none⟩ = some (.int .i64 n)) (lc1 : w.cell? ⟨bl, off + 5, none⟩ = some (.slice Ac wsc.length Cc)) (hfm : fm [⟨n, Aa, Ca, wsa⟩, ⟨n, Ab, Cb, wsb⟩, ⟨n, Ac, Cc, wsc⟩] = true) (hfa : FormN n wsa) (hfb : FormN n wsb) (hfc : FormN n wsc) (h15 : op ≤ 15) : Calls Try.prog 7 #[.int .u8 op, .slice (some ⟨bl, off, none⟩) Ln Cl] w fun e w' => e = .returned (.bool true) ∧ Below w.heap.size w w' := by
  have h15' : ¬ (op : Int) > 15 := by omega
  have HFM := Lib.hid hfm
  clear hfm
  have hn := hfa.n16
  have sma := ha.ok.small
  have smb := hb.ok.small
  have smc := hc.ok.small
  simp only at sma smb smc
  have ft := fun F => tab_form (n := n) (F := F) hn
  have kNA := fun A C w h => notT_any n A C wsa w h hfa
  have kNNA := fun A C w h => notT_any n A C (tab n (notF wsa)) w h (ft _)
  simp only [lw_nn hfa sma] at kNNA
  have kNB := fun A C w h => notT_any n A C wsb w h hfb
  have kAB := fun A C A2 C2 w h1 h2 => twoT_any n 8 A C wsa A2 C2 wsb w (by omega) h1 hfa h2 hfb
  have kNAB := fun A C w h => notT_any n A C (tab n (binF 8 wsa wsb)) w h (ft _)
  have kONN := fun A C A2 C2 w h1 h2 => twoT_any n 14 A C (tab n (notF wsa)) A2 C2 (tab n (notF wsb)) w (by omega) h1 (ft _) h2 (ft _)
  simp only [lw_dm] at kONN
  have kITE := fun A1 C1 A2 C2 A3 C3 w h1 h2 h3 => Ite_any n A1 C1 wsa n A2 C2 wsb n A3 C3 wsc w h1 h2 h3
  have hfm' : ∀ (A1 A2 A3 : Option Addr) (C1 C2 C3 : Nat), fm [⟨n, A1, C1, wsa⟩, ⟨n, A2, C2, wsb⟩, ⟨n, A3, C3, wsc⟩] = true := fun _ _ _ _ _ _ => by simp [fm, Tb.frm, frm_nat.2 hfa, frm_nat.2 hfb, frm_nat.2 hfc]
  simp only [hfm', show fmE true = 0 from rfl] at kITE
  unfold RetA at kITE
  simp only [show ansN n 0 = n from rfl, show ansL (tab (n : Int).toNat (iteF wsa wsb wsc)) 0 = tab n (iteF wsa wsb wsc) from rfl] at kITE
  have kNAC := fun A C A2 C2 w h1 h2 => twoT_any n 8 A C (tab n (notF wsa)) A2 C2 wsc w (by omega) h1 (ft _) h2 hfc
  have kO2 := fun A C A2 C2 w h1 h2 => twoT_any n 14 A C (tab n (binF 8 wsa wsb)) A2 C2 (tab n (binF 8 (tab n (notF wsa)) wsc)) w (by omega) h1 (ft _) h2 (ft _)
  simp only [lw_ite] at kO2
  have kXB := fun A C A2 C2 w h1 h2 => twoT_any n 6 A C wsa A2 C2 wsb w (by omega) h1 hfa h2 hfb
  have kANB := fun A C A2 C2 w h1 h2 => twoT_any n 8 A C wsa A2 C2 (tab n (notF wsb)) w (by omega) h1 hfa h2 (ft _)
  have kNBB := fun A C A2 C2 w h1 h2 => twoT_any n 8 A C (tab n (notF wsa)) A2 C2 wsb w (by omega) h1 (ft _) h2 hfb
  have kO3 := fun A C A2 C2 w h1 h2 => twoT_any n 14 A C (tab n (binF 8 wsa (tab n (notF wsb)))) A2 C2 (tab n (binF 8 (tab n (notF wsa)) wsb)) w (by omega) h1 (ft _) h2 (ft _)
  simp only [lw_xor] at kO3
  have kCON := fun w => Const_any n false w
  rw [show cntE n = 0 by unfold cntE; rw [if_neg (by omega), if_neg (by omega)]] at kCON
  unfold RetA at kCON
  rw [show ansN n 0 = n from rfl, show ansL (tab (n : Int).toNat (fun _ => false)) 0 = tab n (fun _ => false) from rfl, lw_zero n op wsa wsb] at kCON
  have kM0 := fun A C A2 C2 w h1 h2 => twoT_any n 8 A C (tab n (notF wsa)) A2 C2 (tab n (notF wsb)) w (by omega) h1 (ft _) h2 (ft _)
  have kOP := fun A C A2 C2 w h1 h2 => twoT_any n op A C wsa A2 C2 wsb w h15 h1 hfa h2 hfb
  rw [lw_four] at kOP
  have e0 : op.testBit 0 = true → tab n (binF 14 (tab n (sumF op wsa wsb 0)) (tab n (binF 8 (tab n (notF wsa)) (tab n (notF wsb))))) = tab n (sumF op wsa wsb 1) := fun hb => lw_step n wsa wsb false false rfl hb
  have z0 : op.testBit 0 = false → tab n (sumF op wsa wsb 0) = tab n (sumF op wsa wsb 1) := lw_skip n wsa wsb
  have kS0 := fun A C A2 C2 w h1 h2 => twoT_any n 14 A C (tab n (sumF op wsa wsb 0)) A2 C2 (tab n (binF 8 (tab n (notF wsa)) (tab n (notF wsb)))) w (by omega) h1 (ft _) h2 (ft _)
  have b0 : (bits .and .u8 (op : Int) 1 == 0) = !op.testBit 0 := op_bit0 h15
  have e1 : op.testBit 1 = true → tab n (binF 14 (tab n (sumF op wsa wsb 1)) (tab n (binF 8 (tab n (notF wsa)) wsb))) = tab n (sumF op wsa wsb 2) := fun hb => lw_step n wsa wsb false true rfl hb
  have z1 : op.testBit 1 = false → tab n (sumF op wsa wsb 1) = tab n (sumF op wsa wsb 2) := lw_skip n wsa wsb
  have kS1 := fun A C A2 C2 w h1 h2 => twoT_any n 14 A C (tab n (sumF op wsa wsb 1)) A2 C2 (tab n (binF 8 (tab n (notF wsa)) wsb)) w (by omega) h1 (ft _) h2 (ft _)
  have b1 : (bits .and .u8 ((op : Int) / 2) 1 == 0) = !op.testBit 1 := op_bit1 h15
  have e2 : op.testBit 2 = true → tab n (binF 14 (tab n (sumF op wsa wsb 2)) (tab n (binF 8 wsa (tab n (notF wsb))))) = tab n (sumF op wsa wsb 3) := fun hb => lw_step n wsa wsb true false rfl hb
  have z2 : op.testBit 2 = false → tab n (sumF op wsa wsb 2) = tab n (sumF op wsa wsb 3) := lw_skip n wsa wsb
  have kS2 := fun A C A2 C2 w h1 h2 => twoT_any n 14 A C (tab n (sumF op wsa wsb 2)) A2 C2 (tab n (binF 8 wsa (tab n (notF wsb)))) w (by omega) h1 (ft _) h2 (ft _)
  have b2 : (bits .and .u8 ((op : Int) / 4) 1 == 0) = !op.testBit 2 := op_bit2 h15
  have e3 : op.testBit 3 = true → tab n (binF 14 (tab n (sumF op wsa wsb 3)) (tab n (binF 8 wsa wsb))) = tab n (sumF op wsa wsb 4) := fun hb => lw_step n wsa wsb true true rfl hb
  have z3 : op.testBit 3 = false → tab n (sumF op wsa wsb 3) = tab n (sumF op wsa wsb 4) := lw_skip n wsa wsb
  have kS3 := fun A C A2 C2 w h1 h2 => twoT_any n 14 A C (tab n (sumF op wsa wsb 3)) A2 C2 (tab n (binF 8 wsa wsb)) w (by omega) h1 (ft _) h2 (ft _)
  have b3 : (bits .and .u8 ((op : Int) / 8) 1 == 0) = !op.testBit 3 := op_bit3 h15
  have lla : wsa.length ≤ 1000000000000000000 := by rw [hfa.len]; have := nw_le hn; omega
  have qwsa := fun A1 C1 A2 C2 w h1 h2 => same_any n A1 (wsa).length C1 (wsa) n A2 (wsa).length C2 (wsa) w h1 h2 lla
  simp only [sm_self] at qwsa
  have qnab := fun A1 C1 A2 C2 w h1 h2 => same_any n A1 (tab n (notF (tab n (binF 8 wsa wsb)))).length C1 (tab n (notF (tab n (binF 8 wsa wsb)))) n A2 (tab n (notF (tab n (binF 8 wsa wsb)))).length C2 (tab n (notF (tab n (binF 8 wsa wsb)))) w h1 h2 (tab_len_le hn)
  simp only [sm_self] at qnab
  have qit := fun A1 C1 A2 C2 w h1 h2 => same_any n A1 (tab n (iteF wsa wsb wsc)).length C1 (tab n (iteF wsa wsb wsc)) n A2 (tab n (iteF wsa wsb wsc)).length C2 (tab n (iteF wsa wsb wsc)) w h1 h2 (tab_len_le hn)
  simp only [sm_self] at qit
  have qxb := fun A1 C1 A2 C2 w h1 h2 => same_any n A1 (tab n (binF 6 wsa wsb)).length C1 (tab n (binF 6 wsa wsb)) n A2 (tab n (binF 6 wsa wsb)).length C2 (tab n (binF 6 wsa wsb)) w h1 h2 (tab_len_le hn)
  simp only [sm_self] at qxb
  have qs4 := fun A1 C1 A2 C2 w h1 h2 => same_any n A1 (tab n (sumF op wsa wsb 4)).length C1 (tab n (sumF op wsa wsb 4)) n A2 (tab n (sumF op wsa wsb 4)).length C2 (tab n (sumF op wsa wsb 4)) w h1 h2 (tab_len_le hn)
  simp only [sm_self] at qs4
  have g1 : ∀ (A1 A2 A3 : Option Addr) (C1 C2 C3 : Nat), fm [⟨n, A1, C1, tab n (iteF wsa wsb wsc)⟩, ⟨n, A2, C2, tab n (sumF op wsa wsb 0)⟩, ⟨n, A3, C3, wsa⟩] = true := fun _ _ _ _ _ _ => by simp [fm, Tb.frm, frm_nat.2 hfa, frm_nat.2 (ft _)]
  have g2 : ∀ (A1 A2 : Option Addr) (C1 C2 : Nat), fm [⟨n, A1, C1, tab n (sumF op wsa wsb 4)⟩, ⟨n, A2, C2, wsa⟩] = true := fun _ _ _ _ => by simp [fm, Tb.frm, frm_nat.2 hfa, frm_nat.2 (ft _)]
  have smna : Small (tab n (notF wsa)) := fun x hx => tab_lt x hx
  have smnb : Small (tab n (notF wsb)) := fun x hx => tab_lt x hx
  have smab : Small (tab n (binF 8 wsa wsb)) := fun x hx => tab_lt x hx
  have smnab : Small (tab n (notF (tab n (binF 8 wsa wsb)))) := fun x hx => tab_lt x hx
  have smit : Small (tab n (iteF wsa wsb wsc)) := fun x hx => tab_lt x hx
  have smnac : Small (tab n (binF 8 (tab n (notF wsa)) wsc)) := fun x hx => tab_lt x hx
  have smxb : Small (tab n (binF 6 wsa wsb)) := fun x hx => tab_lt x hx
  have smanb : Small (tab n (binF 8 wsa (tab n (notF wsb)))) := fun x hx => tab_lt x hx
  have smnbb : Small (tab n (binF 8 (tab n (notF wsa)) wsb)) := fun x hx => tab_lt x hx
  have smm0 : Small (tab n (binF 8 (tab n (notF wsa)) (tab n (notF wsb)))) := fun x hx => tab_lt x hx
  have sms0 : Small (tab n (sumF op wsa wsb 0)) := fun x hx => tab_lt x hx
  have sms1 : Small (tab n (sumF op wsa wsb 1)) := fun x hx => tab_lt x hx
  have sms2 : Small (tab n (sumF op wsa wsb 2)) := fun x hx => tab_lt x hx
  have sms3 : Small (tab n (sumF op wsa wsb 3)) := fun x hx => tab_lt x hx
  have sms4 : Small (tab n (sumF op wsa wsb 4)) := fun x hx => tab_lt x hx
  have smt0 : Small (tab n (binF 14 (tab n (sumF op wsa wsb 0)) (tab n (binF 8 (tab n (notF wsa)) (tab n (notF wsb)))))) := fun x hx => tab_lt x hx
  have smt1 : Small (tab n (binF 14 (tab n (sumF op wsa wsb 1)) (tab n (binF 8 (tab n (notF wsa)) wsb)))) := fun x hx => tab_lt x hx
  have smt2 : Small (tab n (binF 14 (tab n (sumF op wsa wsb 2)) (tab n (binF 8 wsa (tab n (notF wsb)))))) := fun x hx => tab_lt x hx
  have smt3 : Small (tab n (binF 14 (tab n (sumF op wsa wsb 3)) (tab n (binF 8 wsa wsb)))) := fun x hx => tab_lt x hx
  generalize tab n (notF wsa) = na at *
  generalize tab n (notF wsb) = nb at *
  generalize tab n (binF 8 wsa wsb) = ab at *
  generalize tab n (notF ab) = nab at *
  generalize tab n (iteF wsa wsb wsc) = it at *
  generalize tab n (binF 8 na wsc) = nac at *
  generalize tab n (binF 6 wsa wsb) = xb at *
  generalize tab n (binF 8 wsa nb) = anb at *
  generalize tab n (binF 8 na wsb) = nbb at *
  generalize tab n (binF 8 na nb) = m0 at *
  generalize tab n (sumF op wsa wsb 0) = s0 at *
  generalize tab n (sumF op wsa wsb 1) = s1 at *
  generalize tab n (sumF op wsa wsb 2) = s2 at *
  generalize tab n (sumF op wsa wsb 3) = s3 at *
  generalize tab n (sumF op wsa wsb 4) = s4 at *
  generalize tab n (binF 14 s0 m0) = t0 at *
  generalize tab n (binF 14 s1 nbb) = t1 at *
  generalize tab n (binF 14 s2 anb) = t2 at *
  generalize tab n (binF 14 s3 ab) = t3 at *
  have KNAH := Lib.hid kNA
  have KNNAH := Lib.hid kNNA
  have KNBH := Lib.hid kNB
  have KABH := Lib.hid kAB
  have KNABH := Lib.hid kNAB
  have KONNH := Lib.hid kONN
  have KITEH := Lib.hid kITE
  have KNACH := Lib.hid kNAC
  have KO2H := Lib.hid kO2
  have KXBH := Lib.hid kXB
  have KANBH := Lib.hid kANB
  have KNBBH := Lib.hid kNBB
  have KO3H := Lib.hid kO3
  have KCONH := Lib.hid kCON
  have KM0H := Lib.hid kM0
  have KOPH := Lib.hid kOP
  have KS0H := Lib.hid kS0
  have KS1H := Lib.hid kS1
  have KS2H := Lib.hid kS2
  have KS3H := Lib.hid kS3
  have QWSAH := Lib.hid qwsa
  have QNABH := Lib.hid qnab
  have QITH := Lib.hid qit
  have QXBH := Lib.hid qxb
  have QS4H := Lib.hid qs4
  have G1H := Lib.hid g1
  have G2H := Lib.hid g2
  have E0H := Lib.hid e0
  have E1H := Lib.hid e1
  have E2H := Lib.hid e2
  have E3H := Lib.hid e3
  have Z0H := Lib.hid z0
  have Z1H := Lib.hid z1
  have Z2H := Lib.hid z2
  have Z3H := Lib.hid z3
  have B0H := Lib.hid b0
  have B1H := Lib.hid b1
  have B2H := Lib.hid b2
  have B3H := Lib.hid b3
  have SMAH := Lib.hid sma
  have SMBH := Lib.hid smb
  have SMCH := Lib.hid smc
  have SMNAH := Lib.hid smna
  have SMNBH := Lib.hid smnb
  have SMABH := Lib.hid smab
  have SMNABH := Lib.hid smnab
  have SMITH := Lib.hid smit
  have SMNACH := Lib.hid smnac
  have SMXBH := Lib.hid smxb
  have SMANBH := Lib.hid smanb
  have SMNBBH := Lib.hid smnbb
  have SMM0H := Lib.hid smm0
  have SMS0H := Lib.hid sms0
  have SMS1H := Lib.hid sms1
  have SMS2H := Lib.hid sms2
  have SMS3H := Lib.hid sms3
  have SMS4H := Lib.hid sms4
  have SMT0H := Lib.hid smt0
  have SMT1H := Lib.hid smt1
  have SMT2H := Lib.hid smt2
  have SMT3H := Lib.hid smt3
  clear ft hfm' lla hn kNA kNNA kNB kAB kNAB kONN kITE kNAC kO2 kXB kANB kNBB kO3 kCON kM0 kOP kS0 kS1 kS2 kS3 qwsa qnab qit qxb qs4 g1 g2 e0 e1 e2 e3 z0 z1 z2 z3 b0 b1 b2 b3 sma smb smc smna smnb smab smnab smit smnac smxb smanb smnbb smm0 sms0 sms1 sms2 sms3 sms4 smt0 smt1 smt2 smt3
  have Ha := Lib.hid ha
  have HLa0 := Lib.hid la0
  have HLa1 := Lib.hid la1
  have Hb := Lib.hid hb
  have HLb0 := Lib.hid lb0
  have HLb1 := Lib.hid lb1
  have Hc := Lib.hid hc
  have HLc0 := Lib.hid lc0
  have HLc1 := Lib.hid lc1
  clear ha hb hc la0 la1 lb0 lb1 lc0 lc1
  have hL0 : (0 : Int) < Ln := by omega
  have hL1 : (1 : Int) < Ln := by omega
  have hL2 : (2 : Int) < Ln := by omega
  have hL3 : ¬ (Ln : Int) < 3 := by omega
  have hL4 : ¬ Ln < 3 := by omega
  have hdL : decide ((Ln : Int) < 3) = false := decide_eq_false hL3
  go_enter Try.func7, Try.ntmps7
  go_wp2_with (fail)
  refine (awake_any w).mono ?_
  rintro e w2 ⟨rfl, hs12⟩
  have HS := Lib.hid hs12
  clear hs12
  have la0 : w2.cell? ⟨bl, off, none⟩ = some (.int .i64 n) := ((HS.out).cell (p := ⟨bl, off, none⟩) hbl id).trans HLa0.out
  have la1 : w2.cell? ⟨bl, off + 1, none⟩ = some (.slice Aa wsa.length Ca) := ((HS.out).cell (p := ⟨bl, off + 1, none⟩) hbl id).trans HLa1.out
  have lb0 : w2.cell? ⟨bl, off + 2, none⟩ = some (.int .i64 n) := ((HS.out).cell (p := ⟨bl, off + 2, none⟩) hbl id).trans HLb0.out
  have lb1 : w2.cell? ⟨bl, off + 3, none⟩ = some (.slice Ab wsb.length Cb) := ((HS.out).cell (p := ⟨bl, off + 3, none⟩) hbl id).trans HLb1.out
  have lc0 : w2.cell? ⟨bl, off + 4, none⟩ = some (.int .i64 n) := ((HS.out).cell (p := ⟨bl, off + 4, none⟩) hbl id).trans HLc0.out
  have lc1 : w2.cell? ⟨bl, off + 5, none⟩ = some (.slice Ac wsc.length Cc) := ((HS.out).cell (p := ⟨bl, off + 5, none⟩) hbl id).trans HLc1.out
  have lbl := Nat.lt_of_lt_of_le hbl (HS.out).size
  go_upto_region 3 with fail
  refine wp_phS (fun _ => False) [([0, 1, 2, 3, 4, 5, 6, 7, 8, 9, 10, 11, 12], 13), ([], 14), ([15, 16, 17, 18, 19], 20)] (by kernel_rfl) (by kernel_rfl) ?_
  simp only [wpPh, pick, List.map_cons, List.map_nil, List.getD_cons_zero, List.getD_cons_succ]
  have hs : Same w2 w2.drew := (Frm.refl _ _).drew
  repeat (any_goals (first | go_big_quiet_step (fail) | quiet_step (fail)))
  refine wpQuiet_nil ?_
  refine effStep_on (by rfl) fun K hK => ?_
  go_simp
  have hs2 := Frm.alloc hs (.cells #[.int .i64 n, .slice Aa wsa.length Ca, .int .i64 n, .slice Ab wsb.length Cb, .int .i64 n, .slice Ac wsc.length Cc] 24)
  refine hK _ _ (Lat.mk_ (Frm.mono hs2 (fun _ _ h => h.elim))) ?_
  clear hK K
  repeat (any_goals (first | go_big_quiet_step (fail) | quiet_step (fail)))
  refine wpQuiet_nil ?_
  refine effStep_on (by rfl) fun K hK => ?_
  go_simp
  refine call_world fun wl hwl => ?_
  have hsl : Same w2 wl := by rw [hwl]; exact hs2
  have hBL : Blk wl w2.heap.size 24 #[.int .i64 n, .slice Aa wsa.length Ca, .int .i64 n, .slice Ab wsb.length Cb, .int .i64 n, .slice Ac wsc.length Cc] := by rw [hwl]; exact Blk.new _ _ _
  have htbs : Tbs wl w2.heap.size [⟨n, Aa, Ca, wsa⟩, ⟨n, Ab, Cb, wsb⟩, ⟨n, Ac, Cc, wsc⟩] := by
    intro i t hi
    match i, hi with
    | 0, hi =>
      simp only [List.getElem?_cons_zero, Option.some.injEq] at hi
      subst hi
      exact ⟨hBL.lt, hBL.cell 0, hBL.cell 1⟩
    | 1, hi =>
      simp only [List.getElem?_cons_zero, List.getElem?_cons_succ, Option.some.injEq] at hi
      subst hi
      exact ⟨hBL.lt, hBL.cell 2, hBL.cell 3⟩
    | 2, hi =>
      simp only [List.getElem?_cons_zero, List.getElem?_cons_succ, Option.some.injEq] at hi
      subst hi
      exact ⟨hBL.lt, hBL.cell 4, hBL.cell 5⟩
    | i + 3, hi => simp at hi
  have hfc := good_any w2.heap.size 3 3 [⟨n, Aa, Ca, wsa⟩, ⟨n, Ab, Cb, wsb⟩, ⟨n, Ac, Cc, wsc⟩] wl rfl (by decide) htbs (fun t ht => by
    simp only [List.mem_cons, List.not_mem_nil, or_false] at ht
    rcases ht with rfl | rfl | rfl
    · exact (Ha.out.ok.same (HS.out.trans hsl (fun _ _ h => h)))
    · exact (Hb.out.ok.same (HS.out.trans hsl (fun _ _ h => h)))
    · exact (Hc.out.ok.same (HS.out.trans hsl (fun _ _ h => h))))
  rw [HFM.out] at hfc
  refine hfc.mono ?_
  clear hfc htbs hBL hwl
  rintro e w4 ⟨rfl, hsm⟩
  have hs := hsl.trans hsm (fun _ _ h => h)
  clear hsl hsm hs2
  refine hK _ _ (Lat.mk_ (Frm.mono hs (fun _ _ h => h.elim))) ?_
  clear hK K
  clear la0 la1 lb0 lb1 lc0 lc1 lbl
  replace HS := Lib.hid (HS.out.trans hs (fun _ _ h => h))
  clear hs
  repeat (any_goals (first | go_big_quiet_step (fail) | quiet_step (fail)))
  refine wpQuiet_nil ?_
  have la0 : w4.cell? ⟨bl, off, none⟩ = some (.int .i64 n) := ((HS.out).cell (p := ⟨bl, off, none⟩) hbl id).trans HLa0.out
  have la1 : w4.cell? ⟨bl, off + 1, none⟩ = some (.slice Aa wsa.length Ca) := ((HS.out).cell (p := ⟨bl, off + 1, none⟩) hbl id).trans HLa1.out
  have lb0 : w4.cell? ⟨bl, off + 2, none⟩ = some (.int .i64 n) := ((HS.out).cell (p := ⟨bl, off + 2, none⟩) hbl id).trans HLb0.out
  have lb1 : w4.cell? ⟨bl, off + 3, none⟩ = some (.slice Ab wsb.length Cb) := ((HS.out).cell (p := ⟨bl, off + 3, none⟩) hbl id).trans HLb1.out
  have lc0 : w4.cell? ⟨bl, off + 4, none⟩ = some (.int .i64 n) := ((HS.out).cell (p := ⟨bl, off + 4, none⟩) hbl id).trans HLc0.out
  have lc1 : w4.cell? ⟨bl, off + 5, none⟩ = some (.slice Ac wsc.length Cc) := ((HS.out).cell (p := ⟨bl, off + 5, none⟩) hbl id).trans HLc1.out
  have lbl := Nat.lt_of_lt_of_le hbl (HS.out).size
  go_upto_region 5 with fail
  go_cut [5, 6, 7] from 8 (fun s5 s6 s7 wx => ∃ Ta Tb Tc : Nat, s5 = .pointer (some ⟨Ta, 0, none⟩) ∧ s6 = .pointer (some ⟨Tb, 0, none⟩) ∧ s7 = .pointer (some ⟨Tc, 0, none⟩) ∧ w4.heap.size ≤ Ta ∧ w4.heap.size ≤ Tb ∧ w4.heap.size ≤ Tc ∧
    Blk wx Ta 24 #[.int .i64 n, .slice Aa wsa.length Ca] ∧ Blk wx Tb 24 #[.int .i64 n, .slice Ab wsb.length Cb] ∧ Blk wx Tc 24 #[.int .i64 n, .slice Ac wsc.length Cc] ∧ Same w4 wx)
  case first =>
    refine wp_fS (fun _ => False) (.q [0, 1, 2, 3, 4, 5, 6, 7, 8] (.br 9 (.br 10 (.br 11 (.br 12 (.br 13 (.last 14) .stop) .stop) .stop) (.br 11 (.br 10 (.br 12 (.br 13 (.last 14) .stop) .stop) .stop) .stop)) (.br 10 (.br 9 (.br 11 (.br 12 (.br 13 (.last 14) .stop) .stop) .stop) (.br 11 (.br 9 (.br 12 (.br 13 (.last 14) .stop) .stop) .stop) .stop)) (.br 11 (.br 9 (.br 10 (.br 12 (.br 13 (.last 14) .stop) .stop) .stop) (.br 10 (.br 9 (.br 12 (.br 13 (.last 14) .stop) .stop) .stop) .stop)) .stop)))) (by kernel_rfl) (by kernel_rfl) ?_
    simp only [wpF, pick, List.map_cons, List.map_nil, List.getD_cons_zero, List.getD_cons_succ]
    have hqd : Same w4 w4.drew := (Frm.refl _ _).drew
    repeat (any_goals (first | go_big_quiet_step (fail) | quiet_step (fail)))
    refine wpQuiet_nil ?_
    refine ⟨?_, ?_, ?_⟩
    · refine effStep_plain rfl fun K hK => ?_
      go_simp
      refine hK _ _ (Lat.mk_ (Frm.alloc hqd _)) ?_
      clear hK K
      refine ⟨?_, ?_⟩
      · refine effStep_plain rfl fun K hK => ?_
        go_simp
        refine hK _ _ (Lat.mk_ (Frm.alloc (Frm.alloc hqd _) _)) ?_
        clear hK K
        refine effStep_plain rfl fun K hK => ?_
        go_simp
        refine hK _ _ (Lat.mk_ (Frm.alloc (Frm.alloc (Frm.alloc hqd _) _) _)) ?_
        clear hK K
        refine effStep_plain rfl fun K hK => ?_
        go_simp
        refine hK _ _ (Lat.mk_ (Frm.drew (Frm.alloc (Frm.alloc (Frm.alloc (Frm.refl _ _) _) _) _))) ?_
        clear hK K
        refine effStep_plain rfl fun K hK => ?_
        go_simp
        refine hK _ _ (Lat.mk_ (Frm.drew (Frm.alloc (Frm.alloc (Frm.alloc (Frm.refl _ _) _) _) _))) ?_
        clear hK K
        go_wp2_with fail
        go_meet
        obtain ⟨g1, g2, g3, g4⟩ := three_made w4 #[.int .i64 n, .slice Aa wsa.length Ca] #[.int .i64 n, .slice Ab wsb.length Cb] #[.int .i64 n, .slice Ac wsc.length Cc]
        exact ⟨w4.heap.size, w4.heap.size + 1, w4.heap.size + 1 + 1, rfl, rfl, rfl, by omega, by omega, by omega, g1, g2, g3, g4⟩
      · refine effStep_plain rfl fun K hK => ?_
        go_simp
        refine hK _ _ (Lat.mk_ (Frm.alloc (Frm.alloc hqd _) _)) ?_
        clear hK K
        refine effStep_plain rfl fun K hK => ?_
        go_simp
        refine hK _ _ (Lat.mk_ (Frm.alloc (Frm.alloc (Frm.alloc hqd _) _) _)) ?_
        clear hK K
        refine effStep_plain rfl fun K hK => ?_
        go_simp
        refine hK _ _ (Lat.mk_ (Frm.drew (Frm.alloc (Frm.alloc (Frm.alloc (Frm.refl _ _) _) _) _))) ?_
        clear hK K
        refine effStep_plain rfl fun K hK => ?_
        go_simp
        refine hK _ _ (Lat.mk_ (Frm.drew (Frm.alloc (Frm.alloc (Frm.alloc (Frm.refl _ _) _) _) _))) ?_
        clear hK K
        go_wp2_with fail
        go_meet
        obtain ⟨g1, g2, g3, g4⟩ := three_made w4 #[.int .i64 n, .slice Aa wsa.length Ca] #[.int .i64 n, .slice Ac wsc.length Cc] #[.int .i64 n, .slice Ab wsb.length Cb]
        exact ⟨w4.heap.size, w4.heap.size + 1 + 1, w4.heap.size + 1, rfl, rfl, rfl, by omega, by omega, by omega, g1, g3, g2, g4⟩
    · refine effStep_plain rfl fun K hK => ?_
      go_simp
      refine hK _ _ (Lat.mk_ (Frm.alloc hqd _)) ?_
      clear hK K
      refine ⟨?_, ?_⟩
      · refine effStep_plain rfl fun K hK => ?_
        go_simp
        refine hK _ _ (Lat.mk_ (Frm.alloc (Frm.alloc hqd _) _)) ?_
        clear hK K
        refine effStep_plain rfl fun K hK => ?_
        go_simp
        refine hK _ _ (Lat.mk_ (Frm.alloc (Frm.alloc (Frm.alloc hqd _) _) _)) ?_
        clear hK K
        refine effStep_plain rfl fun K hK => ?_
        go_simp
        refine hK _ _ (Lat.mk_ (Frm.drew (Frm.alloc (Frm.alloc (Frm.alloc (Frm.refl _ _) _) _) _))) ?_
        clear hK K
        refine effStep_plain rfl fun K hK => ?_
        go_simp
        refine hK _ _ (Lat.mk_ (Frm.drew (Frm.alloc (Frm.alloc (Frm.alloc (Frm.refl _ _) _) _) _))) ?_
        clear hK K
        go_wp2_with fail
        go_meet
        obtain ⟨g1, g2, g3, g4⟩ := three_made w4 #[.int .i64 n, .slice Ab wsb.length Cb] #[.int .i64 n, .slice Aa wsa.length Ca] #[.int .i64 n, .slice Ac wsc.length Cc]
        exact ⟨w4.heap.size + 1, w4.heap.size, w4.heap.size + 1 + 1, rfl, rfl, rfl, by omega, by omega, by omega, g2, g1, g3, g4⟩
      · refine effStep_plain rfl fun K hK => ?_
        go_simp
        refine hK _ _ (Lat.mk_ (Frm.alloc (Frm.alloc hqd _) _)) ?_
        clear hK K
        refine effStep_plain rfl fun K hK => ?_
        go_simp
        refine hK _ _ (Lat.mk_ (Frm.alloc (Frm.alloc (Frm.alloc hqd _) _) _)) ?_
        clear hK K
        refine effStep_plain rfl fun K hK => ?_
        go_simp
        refine hK _ _ (Lat.mk_ (Frm.drew (Frm.alloc (Frm.alloc (Frm.alloc (Frm.refl _ _) _) _) _))) ?_
        clear hK K
        refine effStep_plain rfl fun K hK => ?_
        go_simp
        refine hK _ _ (Lat.mk_ (Frm.drew (Frm.alloc (Frm.alloc (Frm.alloc (Frm.refl _ _) _) _) _))) ?_
        clear hK K
        go_wp2_with fail
        go_meet
        obtain ⟨g1, g2, g3, g4⟩ := three_made w4 #[.int .i64 n, .slice Ab wsb.length Cb] #[.int .i64 n, .slice Ac wsc.length Cc] #[.int .i64 n, .slice Aa wsa.length Ca]
        exact ⟨w4.heap.size + 1 + 1, w4.heap.size, w4.heap.size + 1, rfl, rfl, rfl, by omega, by omega, by omega, g3, g1, g2, g4⟩
    · refine effStep_plain rfl fun K hK => ?_
      go_simp
      refine hK _ _ (Lat.mk_ (Frm.alloc hqd _)) ?_
      clear hK K
      refine ⟨?_, ?_⟩
      · refine effStep_plain rfl fun K hK => ?_
        go_simp
        refine hK _ _ (Lat.mk_ (Frm.alloc (Frm.alloc hqd _) _)) ?_
        clear hK K
        refine effStep_plain rfl fun K hK => ?_
        go_simp
        refine hK _ _ (Lat.mk_ (Frm.alloc (Frm.alloc (Frm.alloc hqd _) _) _)) ?_
        clear hK K
        refine effStep_plain rfl fun K hK => ?_
        go_simp
        refine hK _ _ (Lat.mk_ (Frm.drew (Frm.alloc (Frm.alloc (Frm.alloc (Frm.refl _ _) _) _) _))) ?_
        clear hK K
        refine effStep_plain rfl fun K hK => ?_
        go_simp
        refine hK _ _ (Lat.mk_ (Frm.drew (Frm.alloc (Frm.alloc (Frm.alloc (Frm.refl _ _) _) _) _))) ?_
        clear hK K
        go_wp2_with fail
        go_meet
        obtain ⟨g1, g2, g3, g4⟩ := three_made w4 #[.int .i64 n, .slice Ac wsc.length Cc] #[.int .i64 n, .slice Aa wsa.length Ca] #[.int .i64 n, .slice Ab wsb.length Cb]
        exact ⟨w4.heap.size + 1, w4.heap.size + 1 + 1, w4.heap.size, rfl, rfl, rfl, by omega, by omega, by omega, g2, g3, g1, g4⟩
      · refine effStep_plain rfl fun K hK => ?_
        go_simp
        refine hK _ _ (Lat.mk_ (Frm.alloc (Frm.alloc hqd _) _)) ?_
        clear hK K
        refine effStep_plain rfl fun K hK => ?_
        go_simp
        refine hK _ _ (Lat.mk_ (Frm.alloc (Frm.alloc (Frm.alloc hqd _) _) _)) ?_
        clear hK K
        refine effStep_plain rfl fun K hK => ?_
        go_simp
        refine hK _ _ (Lat.mk_ (Frm.drew (Frm.alloc (Frm.alloc (Frm.alloc (Frm.refl _ _) _) _) _))) ?_
        clear hK K
        refine effStep_plain rfl fun K hK => ?_
        go_simp
        refine hK _ _ (Lat.mk_ (Frm.drew (Frm.alloc (Frm.alloc (Frm.alloc (Frm.refl _ _) _) _) _))) ?_
        clear hK K
        go_wp2_with fail
        go_meet
        obtain ⟨g1, g2, g3, g4⟩ := three_made w4 #[.int .i64 n, .slice Ac wsc.length Cc] #[.int .i64 n, .slice Ab wsb.length Cb] #[.int .i64 n, .slice Aa wsa.length Ca]
        exact ⟨w4.heap.size + 1 + 1, w4.heap.size + 1, w4.heap.size, rfl, rfl, rfl, by omega, by omega, by omega, g3, g2, g1, g4⟩
  case rest =>
    obtain ⟨Ta, Tb, Tc, rfl, rfl, rfl, hTa, hTb, hTc, gA, gB, gC, hs⟩ := hcut
    have HS1 := Lib.hid (HS.out.trans hs (fun _ _ h => h))
    have hqa : Tv wc Ta n Aa Ca wsa := ⟨gA, Sl.same Ha.out.ok.wl HS1.out⟩
    have hqb : Tv wc Tb n Ab Cb wsb := ⟨gB, Sl.same Hb.out.ok.wl HS1.out⟩
    have hqc : Tv wc Tc n Ac Cc wsc := ⟨gC, Sl.same Hc.out.ok.wl HS1.out⟩
    clear hTa hTb hTc gA gB gC hs la0 la1 lb0 lb1 lc0 lc1 HS
    have ca0 : wc.cell? ⟨Ta, 0, none⟩ = some (.int .i64 n) := hqa.blk.cell 0
    have ca1 : wc.cell? ⟨Ta, 1, none⟩ = some (.slice Aa wsa.length Ca) := hqa.blk.cell 1
    have la := hqa.blk.lt
    have cb0 : wc.cell? ⟨Tb, 0, none⟩ = some (.int .i64 n) := hqb.blk.cell 0
    have cb1 : wc.cell? ⟨Tb, 1, none⟩ = some (.slice Ab wsb.length Cb) := hqb.blk.cell 1
    have lb := hqb.blk.lt
    have cc0 : wc.cell? ⟨Tc, 0, none⟩ = some (.int .i64 n) := hqc.blk.cell 0
    have cc1 : wc.cell? ⟨Tc, 1, none⟩ = some (.slice Ac wsc.length Cc) := hqc.blk.cell 1
    have lc := hqc.blk.lt
    go_wp2_with (fail)
    refine (KITEH.out Aa Ca Ab Cb Ac Cc wc ⟨hqa.wl, SMAH.out⟩ ⟨hqb.wl, SMBH.out⟩ ⟨hqc.wl, SMCH.out⟩).mono ?_
    rintro e u1 ⟨Ait, Cit, rfl, hN⟩
    clear ca0 ca1 la cb0 cb1 lb cc0 cc1 lc
    have hs := hN.2.2
    have ho := hN.1.sl ucell_len
    clear hN
    replace HS1 := Lib.hid (HS1.out.trans hs (fun _ _ h => h))
    replace hqa := hqa.same hs
    replace hqb := hqb.same hs
    replace hqc := hqc.same hs
    clear hs
    have ca0 : u1.cell? ⟨Ta, 0, none⟩ = some (.int .i64 n) := hqa.blk.cell 0
    have ca1 : u1.cell? ⟨Ta, 1, none⟩ = some (.slice Aa wsa.length Ca) := hqa.blk.cell 1
    have la := hqa.blk.lt
    go_wp2_with (fail)
    refine call_world fun b2 hb2 => ?_
    obtain ⟨hqn, hsv⟩ := Tv.make ho hb2
    clear ca0 ca1 la
    replace HS1 := Lib.hid (HS1.out.trans hsv (fun _ _ h => h))
    replace hqa := hqa.same hsv
    replace hqb := hqb.same hsv
    replace hqc := hqc.same hsv
    obtain ⟨Tit, hTe⟩ : ∃ b, u1.heap.size = b := ⟨_, rfl⟩
    rw [hTe] at hqn ⊢
    have hqit := hqn
    clear hqn hb2 hsv hTe ho
    refine (KCONH.out b2).mono ?_
    rintro e u3 ⟨As, Cs, rfl, hN⟩
    have hs := hN.2.2
    have ho := hN.1.sl ucell_len
    clear hN
    replace HS1 := Lib.hid (HS1.out.trans hs (fun _ _ h => h))
    replace hqa := hqa.same hs
    replace hqb := hqb.same hs
    replace hqc := hqc.same hs
    replace hqit := hqit.same hs
    clear hs
    have hTs0 : w.heap.size ≤ u3.heap.size := HS1.out.size
    have hTas : Ta < u3.heap.size := hqa.blk.lt
    have hTbs : Tb < u3.heap.size := hqb.blk.lt
    go_upto_region 8 with fail
    refine wp_world fun b4 hb4 => ?_
    obtain ⟨hqn, hsv⟩ := Tv.make ho hb4
    replace HS1 := Lib.hid (HS1.out.trans hsv (fun _ _ h => h))
    replace hqa := hqa.same hsv
    replace hqb := hqb.same hsv
    replace hqc := hqc.same hsv
    replace hqit := hqit.same hsv
    obtain ⟨Ts, hTe⟩ : ∃ b, u3.heap.size = b := ⟨_, rfl⟩
    rw [hTe] at hqn hTs0 hTas hTbs ⊢
    have hqs := hqn
    clear hqn hb4 hsv hTe ho
    have cit0 : b4.cell? ⟨Tit, 0, none⟩ = some (.int .i64 n) := hqit.blk.cell 0
    have cit1 : b4.cell? ⟨Tit, 1, none⟩ = some (.slice Ait it.length Cit) := hqit.blk.cell 1
    have lit := hqit.blk.lt
    have cs0 : b4.cell? ⟨Ts, 0, none⟩ = some (.int .i64 n) := hqs.blk.cell 0
    have cs1 : b4.cell? ⟨Ts, 1, none⟩ = some (.slice As s0.length Cs) := hqs.blk.cell 1
    have ls := hqs.blk.lt
    have ca0 : b4.cell? ⟨Ta, 0, none⟩ = some (.int .i64 n) := hqa.blk.cell 0
    have ca1 : b4.cell? ⟨Ta, 1, none⟩ = some (.slice Aa wsa.length Ca) := hqa.blk.cell 1
    have la := hqa.blk.lt
    go_wp2_with (fail)
    refine call_world fun b5 hb5 => ?_
    have hs2 : Same b4 b5 := by rw [hb5]; exact (Frm.refl _ _).alloc _
    have hBL : Blk b5 b4.heap.size 24 #[.int .i64 n, .slice Ait it.length Cit, .int .i64 n, .slice As s0.length Cs, .int .i64 n, .slice Aa wsa.length Ca] := by rw [hb5]; exact Blk.new _ _ _
    have htbs : Tbs b5 b4.heap.size [⟨n, Ait, Cit, it⟩, ⟨n, As, Cs, s0⟩, ⟨n, Aa, Ca, wsa⟩] := by
      intro i t hi
      match i, hi with
      | 0, hi =>
        simp only [List.getElem?_cons_zero, Option.some.injEq] at hi
        subst hi
        exact ⟨hBL.lt, hBL.cell 0, hBL.cell 1⟩
      | 1, hi =>
        simp only [List.getElem?_cons_zero, List.getElem?_cons_succ, Option.some.injEq] at hi
        subst hi
        exact ⟨hBL.lt, hBL.cell 2, hBL.cell 3⟩
      | 2, hi =>
        simp only [List.getElem?_cons_zero, List.getElem?_cons_succ, Option.some.injEq] at hi
        subst hi
        exact ⟨hBL.lt, hBL.cell 4, hBL.cell 5⟩
      | i + 3, hi => simp at hi
    have hfc := good_any b4.heap.size 3 3 [⟨n, Ait, Cit, it⟩, ⟨n, As, Cs, s0⟩, ⟨n, Aa, Ca, wsa⟩] b5 rfl (by decide) htbs (fun t ht => by
      simp only [List.mem_cons, List.not_mem_nil, or_false] at ht
      rcases ht with rfl | rfl | rfl
      · exact TbOk.same ⟨hqit.wl, SMITH.out⟩ hs2
      · exact TbOk.same ⟨hqs.wl, SMS0H.out⟩ hs2
      · exact TbOk.same ⟨hqa.wl, SMAH.out⟩ hs2)
    rw [G1H.out] at hfc
    refine hfc.mono ?_
    clear hfc htbs hBL hb5
    rintro e u6 ⟨rfl, hs3⟩
    have hs := hs2.trans hs3 (fun _ _ h => h)
    clear hs2 hs3
    clear cit0 cit1 lit cs0 cs1 ls ca0 ca1 la
    replace HS1 := Lib.hid (HS1.out.trans hs (fun _ _ h => h))
    replace hqa := hqa.same hs
    replace hqb := hqb.same hs
    replace hqc := hqc.same hs
    replace hqit := hqit.same hs
    replace hqs := hqs.same hs
    clear hs
    have ca0 : u6.cell? ⟨Ta, 0, none⟩ = some (.int .i64 n) := hqa.blk.cell 0
    have ca1 : u6.cell? ⟨Ta, 1, none⟩ = some (.slice Aa wsa.length Ca) := hqa.blk.cell 1
    have la := hqa.blk.lt
    have cb0 : u6.cell? ⟨Tb, 0, none⟩ = some (.int .i64 n) := hqb.blk.cell 0
    have cb1 : u6.cell? ⟨Tb, 1, none⟩ = some (.slice Ab wsb.length Cb) := hqb.blk.cell 1
    have lb := hqb.blk.lt
    have cc0 : u6.cell? ⟨Tc, 0, none⟩ = some (.int .i64 n) := hqc.blk.cell 0
    have cc1 : u6.cell? ⟨Tc, 1, none⟩ = some (.slice Ac wsc.length Cc) := hqc.blk.cell 1
    have lc := hqc.blk.lt
    have cit0 : u6.cell? ⟨Tit, 0, none⟩ = some (.int .i64 n) := hqit.blk.cell 0
    have cit1 : u6.cell? ⟨Tit, 1, none⟩ = some (.slice Ait it.length Cit) := hqit.blk.cell 1
    have lit := hqit.blk.lt
    go_upto_region 10 with fail
    refine wp_phS (fun _ => False) [([0, 3], 1), ([], 2), ([], 4), ([5, 6, 7, 8, 11, 13], 9), ([], 10), ([], 12), ([], 14), ([], 15), ([], 16), ([17, 18, 19, 20, 21, 22, 24, 26], 23), ([], 25), ([], 27), ([], 28), ([], 29), ([30, 31, 32, 33, 34, 36, 37, 40, 42], 35), ([], 38), ([], 39), ([], 41), ([], 43), ([], 44), ([], 45), ([46], 47)] (by kernel_rfl) (by kernel_rfl) ?_
    simp only [wpPh, pick, List.map_cons, List.map_nil, List.getD_cons_zero, List.getD_cons_succ]
    have hs : Same u6 u6.drew := (Frm.refl _ _).drew
    repeat (any_goals (first | go_big_quiet_step (fail) | quiet_step (fail)))
    refine wpQuiet_nil ?_
    refine effStep_plain rfl fun K hK => ?_
    go_simp
    refine (KNAH.out Aa Ca _ ⟨(hqa.same hs).wl, SMAH.out⟩).mono ?_
    rintro e u7 ⟨AL1, CL1, rfl, hN⟩
    have hotL1 := hN.1.sl ucell_len
    have hs := hs.trans hN.2.2 (fun _ _ h => h)
    refine hK _ _ (Lat.mk_ (Frm.mono hs (fun _ _ h => h.elim))) ?_
    clear hK K
    clear hN
    repeat (any_goals (first | go_big_quiet_step (fail) | quiet_step (fail)))
    refine wpQuiet_nil ?_
    refine effStep_plain rfl fun K hK => ?_
    go_simp
    refine (KNNAH.out AL1 CL1 _ ⟨hotL1, SMNAH.out⟩).mono ?_
    rintro e u8 ⟨AL2, CL2, rfl, hN⟩
    have hotL1 := Sl.same hotL1 hN.2.2
    have hotL2 := hN.1.sl ucell_len
    have hs := hs.trans hN.2.2 (fun _ _ h => h)
    refine hK _ _ (Lat.mk_ (Frm.mono hs (fun _ _ h => h.elim))) ?_
    clear hK K
    clear hN
    repeat (any_goals (first | go_big_quiet_step (fail) | quiet_step (fail)))
    refine wpQuiet_nil ?_
    clear hotL1
    refine effStep_plain rfl fun K hK => ?_
    go_simp
    refine (QWSAH.out AL2 CL2 Aa Ca _ hotL2 (hqa.same hs).wl).mono ?_
    rintro e u9 ⟨rfl, hsz⟩
    have hotL2 := Sl.same hotL2 hsz
    have hs := hs.trans hsz (fun _ _ h => h)
    refine hK _ _ (Lat.mk_ (Frm.mono hs (fun _ _ h => h.elim))) ?_
    clear hK K
    clear hsz
    repeat (any_goals (first | go_big_quiet_step (fail) | quiet_step (fail)))
    refine wpQuiet_nil ?_
    clear hotL2
    refine effStep_on (by rfl) fun K hK => ?_
    go_simp
    refine (KABH.out Aa Ca Ab Cb _ ⟨(hqa.same hs).wl, SMAH.out⟩ ⟨(hqb.same hs).wl, SMBH.out⟩).mono ?_
    rintro e u10 ⟨AL3, CL3, rfl, hN⟩
    have hotL3 := hN.1.sl ucell_len
    have hs := hs.trans hN.2.2 (fun _ _ h => h)
    refine hK _ _ (Lat.mk_ (Frm.mono hs (fun _ _ h => h.elim))) ?_
    clear hK K
    clear hN
    repeat (any_goals (first | go_big_quiet_step (fail) | quiet_step (fail)))
    refine wpQuiet_nil ?_
    refine effStep_on (by rfl) fun K hK => ?_
    go_simp
    refine (KNABH.out AL3 CL3 _ ⟨hotL3, SMABH.out⟩).mono ?_
    rintro e u11 ⟨AL4, CL4, rfl, hN⟩
    have hotL3 := Sl.same hotL3 hN.2.2
    have hotL4 := hN.1.sl ucell_len
    have hs := hs.trans hN.2.2 (fun _ _ h => h)
    refine hK _ _ (Lat.mk_ (Frm.mono hs (fun _ _ h => h.elim))) ?_
    clear hK K
    clear hN
    repeat (any_goals (first | go_big_quiet_step (fail) | quiet_step (fail)))
    refine wpQuiet_nil ?_
    clear hotL3
    refine effStep_on (by rfl) fun K hK => ?_
    go_simp
    refine (KNAH.out Aa Ca _ ⟨(hqa.same hs).wl, SMAH.out⟩).mono ?_
    rintro e u12 ⟨AL5, CL5, rfl, hN⟩
    have hotL4 := Sl.same hotL4 hN.2.2
    have hotL5 := hN.1.sl ucell_len
    have hs := hs.trans hN.2.2 (fun _ _ h => h)
    refine hK _ _ (Lat.mk_ (Frm.mono hs (fun _ _ h => h.elim))) ?_
    clear hK K
    clear hN
    repeat (any_goals (first | go_big_quiet_step (fail) | quiet_step (fail)))
    refine wpQuiet_nil ?_
    refine effStep_on (by rfl) fun K hK => ?_
    go_simp
    refine (KNBH.out Ab Cb _ ⟨(hqb.same hs).wl, SMBH.out⟩).mono ?_
    rintro e u13 ⟨AL6, CL6, rfl, hN⟩
    have hotL4 := Sl.same hotL4 hN.2.2
    have hotL5 := Sl.same hotL5 hN.2.2
    have hotL6 := hN.1.sl ucell_len
    have hs := hs.trans hN.2.2 (fun _ _ h => h)
    refine hK _ _ (Lat.mk_ (Frm.mono hs (fun _ _ h => h.elim))) ?_
    clear hK K
    clear hN
    repeat (any_goals (first | go_big_quiet_step (fail) | quiet_step (fail)))
    refine wpQuiet_nil ?_
    refine effStep_on (by rfl) fun K hK => ?_
    go_simp
    refine (KONNH.out AL5 CL5 AL6 CL6 _ ⟨hotL5, SMNAH.out⟩ ⟨hotL6, SMNBH.out⟩).mono ?_
    rintro e u14 ⟨AL7, CL7, rfl, hN⟩
    have hotL4 := Sl.same hotL4 hN.2.2
    have hotL5 := Sl.same hotL5 hN.2.2
    have hotL6 := Sl.same hotL6 hN.2.2
    have hotL7 := hN.1.sl ucell_len
    have hs := hs.trans hN.2.2 (fun _ _ h => h)
    refine hK _ _ (Lat.mk_ (Frm.mono hs (fun _ _ h => h.elim))) ?_
    clear hK K
    clear hN
    repeat (any_goals (first | go_big_quiet_step (fail) | quiet_step (fail)))
    refine wpQuiet_nil ?_
    clear hotL5
    clear hotL6
    refine effStep_on (by rfl) fun K hK => ?_
    go_simp
    refine (QNABH.out AL4 CL4 AL7 CL7 _ hotL4 hotL7).mono ?_
    rintro e u15 ⟨rfl, hsz⟩
    have hotL4 := Sl.same hotL4 hsz
    have hotL7 := Sl.same hotL7 hsz
    have hs := hs.trans hsz (fun _ _ h => h)
    refine hK _ _ (Lat.mk_ (Frm.mono hs (fun _ _ h => h.elim))) ?_
    clear hK K
    clear hsz
    repeat (any_goals (first | go_big_quiet_step (fail) | quiet_step (fail)))
    refine wpQuiet_nil ?_
    clear hotL4
    clear hotL7
    refine effStep_on (by rfl) fun K hK => ?_
    go_simp
    refine (KABH.out Aa Ca Ab Cb _ ⟨(hqa.same hs).wl, SMAH.out⟩ ⟨(hqb.same hs).wl, SMBH.out⟩).mono ?_
    rintro e u16 ⟨AL8, CL8, rfl, hN⟩
    have hotL8 := hN.1.sl ucell_len
    have hs := hs.trans hN.2.2 (fun _ _ h => h)
    refine hK _ _ (Lat.mk_ (Frm.mono hs (fun _ _ h => h.elim))) ?_
    clear hK K
    clear hN
    repeat (any_goals (first | go_big_quiet_step (fail) | quiet_step (fail)))
    refine wpQuiet_nil ?_
    refine effStep_on (by rfl) fun K hK => ?_
    go_simp
    refine (KNAH.out Aa Ca _ ⟨(hqa.same hs).wl, SMAH.out⟩).mono ?_
    rintro e u17 ⟨AL9, CL9, rfl, hN⟩
    have hotL8 := Sl.same hotL8 hN.2.2
    have hotL9 := hN.1.sl ucell_len
    have hs := hs.trans hN.2.2 (fun _ _ h => h)
    refine hK _ _ (Lat.mk_ (Frm.mono hs (fun _ _ h => h.elim))) ?_
    clear hK K
    clear hN
    repeat (any_goals (first | go_big_quiet_step (fail) | quiet_step (fail)))
    refine wpQuiet_nil ?_
    refine effStep_on (by rfl) fun K hK => ?_
    go_simp
    refine (KNACH.out AL9 CL9 Ac Cc _ ⟨hotL9, SMNAH.out⟩ ⟨(hqc.same hs).wl, SMCH.out⟩).mono ?_
    rintro e u18 ⟨AL10, CL10, rfl, hN⟩
    have hotL8 := Sl.same hotL8 hN.2.2
    have hotL9 := Sl.same hotL9 hN.2.2
    have hotL10 := hN.1.sl ucell_len
    have hs := hs.trans hN.2.2 (fun _ _ h => h)
    refine hK _ _ (Lat.mk_ (Frm.mono hs (fun _ _ h => h.elim))) ?_
    clear hK K
    clear hN
    repeat (any_goals (first | go_big_quiet_step (fail) | quiet_step (fail)))
    refine wpQuiet_nil ?_
    clear hotL9
    refine effStep_on (by rfl) fun K hK => ?_
    go_simp
    refine (KO2H.out AL8 CL8 AL10 CL10 _ ⟨hotL8, SMABH.out⟩ ⟨hotL10, SMNACH.out⟩).mono ?_
    rintro e u19 ⟨AL11, CL11, rfl, hN⟩
    have hotL8 := Sl.same hotL8 hN.2.2
    have hotL10 := Sl.same hotL10 hN.2.2
    have hotL11 := hN.1.sl ucell_len
    have hs := hs.trans hN.2.2 (fun _ _ h => h)
    refine hK _ _ (Lat.mk_ (Frm.mono hs (fun _ _ h => h.elim))) ?_
    clear hK K
    clear hN
    repeat (any_goals (first | go_big_quiet_step (fail) | quiet_step (fail)))
    refine wpQuiet_nil ?_
    clear hotL8
    clear hotL10
    refine effStep_on (by rfl) fun K hK => ?_
    go_simp
    refine (QITH.out Ait Cit AL11 CL11 _ (hqit.same hs).wl hotL11).mono ?_
    rintro e u20 ⟨rfl, hsz⟩
    have hotL11 := Sl.same hotL11 hsz
    have hs := hs.trans hsz (fun _ _ h => h)
    refine hK _ _ (Lat.mk_ (Frm.mono hs (fun _ _ h => h.elim))) ?_
    clear hK K
    clear hsz
    repeat (any_goals (first | go_big_quiet_step (fail) | quiet_step (fail)))
    refine wpQuiet_nil ?_
    clear hotL11
    refine effStep_on (by rfl) fun K hK => ?_
    go_simp
    refine (KXBH.out Aa Ca Ab Cb _ ⟨(hqa.same hs).wl, SMAH.out⟩ ⟨(hqb.same hs).wl, SMBH.out⟩).mono ?_
    rintro e u21 ⟨AL12, CL12, rfl, hN⟩
    have hotL12 := hN.1.sl ucell_len
    have hs := hs.trans hN.2.2 (fun _ _ h => h)
    refine hK _ _ (Lat.mk_ (Frm.mono hs (fun _ _ h => h.elim))) ?_
    clear hK K
    clear hN
    repeat (any_goals (first | go_big_quiet_step (fail) | quiet_step (fail)))
    refine wpQuiet_nil ?_
    refine effStep_on (by rfl) fun K hK => ?_
    go_simp
    refine (KNBH.out Ab Cb _ ⟨(hqb.same hs).wl, SMBH.out⟩).mono ?_
    rintro e u22 ⟨AL13, CL13, rfl, hN⟩
    have hotL12 := Sl.same hotL12 hN.2.2
    have hotL13 := hN.1.sl ucell_len
    have hs := hs.trans hN.2.2 (fun _ _ h => h)
    refine hK _ _ (Lat.mk_ (Frm.mono hs (fun _ _ h => h.elim))) ?_
    clear hK K
    clear hN
    repeat (any_goals (first | go_big_quiet_step (fail) | quiet_step (fail)))
    refine wpQuiet_nil ?_
    refine effStep_on (by rfl) fun K hK => ?_
    go_simp
    refine (KANBH.out Aa Ca AL13 CL13 _ ⟨(hqa.same hs).wl, SMAH.out⟩ ⟨hotL13, SMNBH.out⟩).mono ?_
    rintro e u23 ⟨AL14, CL14, rfl, hN⟩
    have hotL12 := Sl.same hotL12 hN.2.2
    have hotL13 := Sl.same hotL13 hN.2.2
    have hotL14 := hN.1.sl ucell_len
    have hs := hs.trans hN.2.2 (fun _ _ h => h)
    refine hK _ _ (Lat.mk_ (Frm.mono hs (fun _ _ h => h.elim))) ?_
    clear hK K
    clear hN
    repeat (any_goals (first | go_big_quiet_step (fail) | quiet_step (fail)))
    refine wpQuiet_nil ?_
    clear hotL13
    refine effStep_on (by rfl) fun K hK => ?_
    go_simp
    refine (KNAH.out Aa Ca _ ⟨(hqa.same hs).wl, SMAH.out⟩).mono ?_
    rintro e u24 ⟨AL15, CL15, rfl, hN⟩
    have hotL12 := Sl.same hotL12 hN.2.2
    have hotL14 := Sl.same hotL14 hN.2.2
    have hotL15 := hN.1.sl ucell_len
    have hs := hs.trans hN.2.2 (fun _ _ h => h)
    refine hK _ _ (Lat.mk_ (Frm.mono hs (fun _ _ h => h.elim))) ?_
    clear hK K
    clear hN
    repeat (any_goals (first | go_big_quiet_step (fail) | quiet_step (fail)))
    refine wpQuiet_nil ?_
    refine effStep_on (by rfl) fun K hK => ?_
    go_simp
    refine (KNBBH.out AL15 CL15 Ab Cb _ ⟨hotL15, SMNAH.out⟩ ⟨(hqb.same hs).wl, SMBH.out⟩).mono ?_
    rintro e u25 ⟨AL16, CL16, rfl, hN⟩
    have hotL12 := Sl.same hotL12 hN.2.2
    have hotL14 := Sl.same hotL14 hN.2.2
    have hotL15 := Sl.same hotL15 hN.2.2
    have hotL16 := hN.1.sl ucell_len
    have hs := hs.trans hN.2.2 (fun _ _ h => h)
    refine hK _ _ (Lat.mk_ (Frm.mono hs (fun _ _ h => h.elim))) ?_
    clear hK K
    clear hN
    repeat (any_goals (first | go_big_quiet_step (fail) | quiet_step (fail)))
    refine wpQuiet_nil ?_
    clear hotL15
    refine effStep_on (by rfl) fun K hK => ?_
    go_simp
    refine (KO3H.out AL14 CL14 AL16 CL16 _ ⟨hotL14, SMANBH.out⟩ ⟨hotL16, SMNBBH.out⟩).mono ?_
    rintro e u26 ⟨AL17, CL17, rfl, hN⟩
    have hotL12 := Sl.same hotL12 hN.2.2
    have hotL14 := Sl.same hotL14 hN.2.2
    have hotL16 := Sl.same hotL16 hN.2.2
    have hotL17 := hN.1.sl ucell_len
    have hs := hs.trans hN.2.2 (fun _ _ h => h)
    refine hK _ _ (Lat.mk_ (Frm.mono hs (fun _ _ h => h.elim))) ?_
    clear hK K
    clear hN
    repeat (any_goals (first | go_big_quiet_step (fail) | quiet_step (fail)))
    refine wpQuiet_nil ?_
    clear hotL14
    clear hotL16
    refine effStep_on (by rfl) fun K hK => ?_
    go_simp
    refine (QXBH.out AL12 CL12 AL17 CL17 _ hotL12 hotL17).mono ?_
    rintro e u27 ⟨rfl, hsz⟩
    have hotL12 := Sl.same hotL12 hsz
    have hotL17 := Sl.same hotL17 hsz
    have hs := hs.trans hsz (fun _ _ h => h)
    refine hK _ _ (Lat.mk_ (Frm.mono hs (fun _ _ h => h.elim))) ?_
    clear hK K
    clear hsz
    repeat (any_goals (first | go_big_quiet_step (fail) | quiet_step (fail)))
    refine wpQuiet_nil ?_
    clear hotL12
    clear hotL17
    clear ca0 ca1 la cb0 cb1 lb cc0 cc1 lc cit0 cit1 lit
    replace HS1 := Lib.hid (HS1.out.trans hs (fun _ _ h => h))
    replace hqa := hqa.same hs
    replace hqb := hqb.same hs
    replace hqc := hqc.same hs
    replace hqit := hqit.same hs
    replace hqs := hqs.same hs
    clear hs
    clear hqc hqit
    go_wp2
    go_loopw [122] (fun i wr => ∃ (k : Int) (sk : List Nat) (As : Option Addr) (Cs : Nat), (k = 0 ∧ sk = s0 ∨ k = 1 ∧ sk = s1 ∨ k = 2 ∧ sk = s2 ∨ k = 3 ∧ sk = s3 ∨ k = 4 ∧ sk = s4) ∧ i = .int .i64 k ∧ Frm (fun b => b = Ts) u27 wr ∧ Tv wr Ts n As Cs sk) (fun i _ => 4 - (intOf i).toNat)
    case atStart => exact ⟨0, s0, As, Cs, by simp, rfl, Frm.refl _ _, hqs⟩
    case round =>
      obtain ⟨k, sk, Ak, Ck, hks, rfl, hf, hqk⟩ := hrel
      have HSW : Same w wr := HS1.out.trans hf (fun i hi (h : i = Ts) => by omega)
      have hqa1 : Tv wr Ta n Aa Ca wsa := ⟨hqa.blk.frm hf (fun (h : Ta = Ts) => by omega), Sl.same Ha.out.ok.wl HSW⟩
      have hqb1 : Tv wr Tb n Ab Cb wsb := ⟨hqb.blk.frm hf (fun (h : Tb = Ts) => by omega), Sl.same Hb.out.ok.wl HSW⟩
      clear hqa hqb hqs
      have hqa := hqa1
      have hqb := hqb1
      have hqs := hqk
      have HFR := Lib.hid hf
      replace HS1 := Lib.hid HSW
      clear hqa1 hqb1 hqk HSW hf
      rcases hks with ⟨rfl, hsk⟩ | ⟨rfl, hsk⟩ | ⟨rfl, hsk⟩ | ⟨rfl, hsk⟩ | ⟨rfl, hsk⟩ <;> rw [hsk] at hqs <;> clear hsk
      · cases hb : op.testBit 0 with
        | false =>
          have hbj := B0H.out
          rw [hb] at hbj
          simp only [Bool.not_false] at hbj
          go_wp2
          exact ⟨⟨1, s1, Ak, Ck, by simp, rfl, HFR.out, by rw [← Z0H.out hb]; exact hqs⟩, by simp [intOf]⟩
        | true =>
          have hbj := B0H.out
          rw [hb] at hbj
          simp only [Bool.not_true] at hbj
          have kSj := KS0H.out
          simp only [E0H.out hb] at kSj
          have KSJH := Lib.hid kSj
          clear kSj
          have ca0 : wr.cell? ⟨Ta, 0, none⟩ = some (.int .i64 n) := hqa.blk.cell 0
          have ca1 : wr.cell? ⟨Ta, 1, none⟩ = some (.slice Aa wsa.length Ca) := hqa.blk.cell 1
          have la := hqa.blk.lt
          have cb0 : wr.cell? ⟨Tb, 0, none⟩ = some (.int .i64 n) := hqb.blk.cell 0
          have cb1 : wr.cell? ⟨Tb, 1, none⟩ = some (.slice Ab wsb.length Cb) := hqb.blk.cell 1
          have lb := hqb.blk.lt
          go_upto_region 16 with fail
          go_cut [13, 14] from 159 (fun s13 s14 wx => ∃ Tx Ty : Nat, s13 = .pointer (some ⟨Tx, 0, none⟩) ∧ s14 = .pointer (some ⟨Ty, 0, none⟩) ∧ wr.heap.size ≤ Tx ∧ wr.heap.size ≤ Ty ∧ Tx ≠ Ty ∧
            Blk wx Tx 24 #[.int .i64 n, .slice Aa wsa.length Ca] ∧ Blk wx Ty 24 #[.int .i64 n, .slice Ab wsb.length Cb] ∧ Same wr wx)
          case first =>
            refine wp_fS (fun _ => False) (.q [0, 1] (.br 2 (.br 3 (.br 4 (.last 5) .stop) .stop) (.br 3 (.br 2 (.br 4 (.last 5) .stop) .stop) .stop))) (by kernel_rfl) (by kernel_rfl) ?_
            simp only [wpF, pick, List.map_cons, List.map_nil, List.getD_cons_zero, List.getD_cons_succ]
            have hqd : Same wr wr.drew := (Frm.refl _ _).drew
            repeat (any_goals (first | go_big_quiet_step (fail) | quiet_step (fail)))
            refine wpQuiet_nil ?_
            refine ⟨?_, ?_⟩
            · refine effStep_plain rfl fun K hK => ?_
              go_simp
              refine hK _ _ (Lat.mk_ (Frm.alloc hqd _)) ?_
              clear hK K
              refine effStep_plain rfl fun K hK => ?_
              go_simp
              refine hK _ _ (Lat.mk_ (Frm.alloc (Frm.alloc hqd _) _)) ?_
              clear hK K
              refine effStep_plain rfl fun K hK => ?_
              go_simp
              refine hK _ _ (Lat.mk_ (Frm.drew (Frm.alloc (Frm.alloc (Frm.refl _ _) _) _))) ?_
              clear hK K
              go_wp2_with fail
              go_meet
              obtain ⟨g1, g2, g4⟩ := two_made2 wr #[.int .i64 n, .slice Aa wsa.length Ca] #[.int .i64 n, .slice Ab wsb.length Cb]
              exact ⟨wr.heap.size, wr.heap.size + 1, rfl, rfl, by omega, by omega, by omega, g1, g2, g4⟩
            · refine effStep_plain rfl fun K hK => ?_
              go_simp
              refine hK _ _ (Lat.mk_ (Frm.alloc hqd _)) ?_
              clear hK K
              refine effStep_plain rfl fun K hK => ?_
              go_simp
              refine hK _ _ (Lat.mk_ (Frm.alloc (Frm.alloc hqd _) _)) ?_
              clear hK K
              refine effStep_plain rfl fun K hK => ?_
              go_simp
              refine hK _ _ (Lat.mk_ (Frm.drew (Frm.alloc (Frm.alloc (Frm.refl _ _) _) _))) ?_
              clear hK K
              go_wp2_with fail
              go_meet
              obtain ⟨g1, g2, g4⟩ := two_made2 wr #[.int .i64 n, .slice Ab wsb.length Cb] #[.int .i64 n, .slice Aa wsa.length Ca]
              exact ⟨wr.heap.size + 1, wr.heap.size, rfl, rfl, by omega, by omega, by omega, g2, g1, g4⟩
          case rest =>
            obtain ⟨Tx, Ty, rfl, rfl, hTx, hTy, hxy, gX, gY, hs⟩ := hcut
            have HSR := Lib.hid hs
            have hqa0 := hqa
            have hqb0 := hqb
            have hqs0 := hqs
            clear hs ca0 ca1 la cb0 cb1 lb hqa hqb hqs hbj
            have hqa := hqa0.same HSR.out
            have ca0 : wc.cell? ⟨Ta, 0, none⟩ = some (.int .i64 n) := hqa.blk.cell 0
            have ca1 : wc.cell? ⟨Ta, 1, none⟩ = some (.slice Aa wsa.length Ca) := hqa.blk.cell 1
            have la := hqa.blk.lt
            go_wp2_with (fail)
            refine (KNAH.out Aa Ca wc ⟨hqa.wl, SMAH.out⟩).mono ?_
            rintro e uX ⟨Ana, Cna, rfl, hN⟩
            clear ca0 ca1 la hqa
            have hn1 : ∀ a, Ana = some a → a.block ≠ Tx := fun a ha h => by
              have h1 := hN.2.1 a.block ⟨a, ha, rfl⟩
              have h2 := gX.lt
              omega
            have hnX : ∀ a, Ana = some a → a.block ≠ Ty := fun a ha h => by
              have h1 := hN.2.1 a.block ⟨a, ha, rfl⟩
              have h2 := gY.lt
              omega
            replace gX := gX.frm hN.2.2 id
            replace gY := gY.frm hN.2.2 id
            replace HSR := Lib.hid (HSR.out.trans hN.2.2 (fun _ _ h => h))
            have how := hN.1.sl ucell_len
            clear hN
            have cz0 := gX.cell 0
            have cz1 := gX.cell 1
            have lz := gX.lt
            have fz0 := gX.free 0
            have fz1 := gX.free 1
            go_upto_region 19 with fail
            refine wp_world fun bX hb2 => ?_
            have hft : Frm (fun b => b = Tx) uX bX := by rw [hb2]; exact ((Frm.refl (fun b => b = Tx) _).set 0 _ rfl).set 1 _ rfl
            have g1 : Blk bX Tx 24 #[.int .i64 n, .slice Ana na.length Cna] := by
              rw [hb2]
              have := (gX.set 0 (.int .i64 n)).set 1 (.slice Ana na.length Cna)
              simpa using this
            replace HSR := Lib.hid (show Same wr bX by rw [hb2]; exact (HSR.out.setNew 0 _ hTx).setNew 1 _ hTx)
            replace gY := gY.frm hft (fun (h : Ty = Tx) => by omega)
            have hoX := WL.turn how hft hn1
            clear gX cz0 cz1 lz fz0 fz1 hft hn1 how hb2
            have gX := g1
            clear g1
            have hqb := hqb0.same HSR.out
            have cb0 : bX.cell? ⟨Tb, 0, none⟩ = some (.int .i64 n) := hqb.blk.cell 0
            have cb1 : bX.cell? ⟨Tb, 1, none⟩ = some (.slice Ab wsb.length Cb) := hqb.blk.cell 1
            have lb := hqb.blk.lt
            go_wp2_with (fail)
            refine (KNBH.out Ab Cb bX ⟨hqb.wl, SMBH.out⟩).mono ?_
            rintro e uY ⟨Anb, Cnb, rfl, hN⟩
            clear cb0 cb1 lb hqb
            have hn1 : ∀ a, Anb = some a → a.block ≠ Ty := fun a ha h => by
              have h1 := hN.2.1 a.block ⟨a, ha, rfl⟩
              have h2 := gY.lt
              omega
            have hnY : ∀ a, Anb = some a → a.block ≠ Tx := fun a ha h => by
              have h1 := hN.2.1 a.block ⟨a, ha, rfl⟩
              have h2 := gX.lt
              omega
            replace gY := gY.frm hN.2.2 id
            replace gX := gX.frm hN.2.2 id
            replace HSR := Lib.hid (HSR.out.trans hN.2.2 (fun _ _ h => h))
            have how := hN.1.sl ucell_len
            replace hoX := Sl.same hoX hN.2.2
            clear hN
            have cz0 := gY.cell 0
            have cz1 := gY.cell 1
            have lz := gY.lt
            have fz0 := gY.free 0
            have fz1 := gY.free 1
            go_upto_region 21 with fail
            refine wp_world fun bY hb2 => ?_
            have hft : Frm (fun b => b = Ty) uY bY := by rw [hb2]; exact ((Frm.refl (fun b => b = Ty) _).set 0 _ rfl).set 1 _ rfl
            have g1 : Blk bY Ty 24 #[.int .i64 n, .slice Anb nb.length Cnb] := by
              rw [hb2]
              have := (gY.set 0 (.int .i64 n)).set 1 (.slice Anb nb.length Cnb)
              simpa using this
            replace HSR := Lib.hid (show Same wr bY by rw [hb2]; exact (HSR.out.setNew 0 _ hTy).setNew 1 _ hTy)
            replace gX := gX.frm hft (fun (h : Tx = Ty) => by omega)
            have hoY := WL.turn how hft hn1
            replace hoX := WL.turn hoX hft hnX
            clear gY cz0 cz1 lz fz0 fz1 hft hn1 how hb2
            have gY := g1
            clear g1
            have hqx : Tv bY Tx n Ana Cna na := ⟨gX, hoX⟩
            have hqy : Tv bY Ty n Anb Cnb nb := ⟨gY, hoY⟩
            have hqs := hqs0.same HSR.out
            have cs0 : bY.cell? ⟨Ts, 0, none⟩ = some (.int .i64 n) := hqs.blk.cell 0
            have cs1 : bY.cell? ⟨Ts, 1, none⟩ = some (.slice Ak s0.length Ck) := hqs.blk.cell 1
            have ls := hqs.blk.lt
            have cx0 : bY.cell? ⟨Tx, 0, none⟩ = some (.int .i64 n) := hqx.blk.cell 0
            have cx1 : bY.cell? ⟨Tx, 1, none⟩ = some (.slice Ana na.length Cna) := hqx.blk.cell 1
            have lx := hqx.blk.lt
            have cy0 : bY.cell? ⟨Ty, 0, none⟩ = some (.int .i64 n) := hqy.blk.cell 0
            have cy1 : bY.cell? ⟨Ty, 1, none⟩ = some (.slice Anb nb.length Cnb) := hqy.blk.cell 1
            have ly := hqy.blk.lt
            go_upto_region 21 with fail
            refine wp_phS (fun _ => False) [([0, 1, 2], 3), ([], 4), ([], 5)] (by kernel_rfl) (by kernel_rfl) ?_
            simp only [wpPh, pick, List.map_cons, List.map_nil, List.getD_cons_zero, List.getD_cons_succ]
            have hs : Same bY bY.drew := (Frm.refl _ _).drew
            repeat (any_goals (first | go_big_quiet_step (fail) | quiet_step (fail)))
            refine wpQuiet_nil ?_
            refine effStep_plain rfl fun K hK => ?_
            go_simp
            refine (KM0H.out Ana Cna Anb Cnb _ ⟨(hqx.same hs).wl, SMNAH.out⟩ ⟨(hqy.same hs).wl, SMNBH.out⟩).mono ?_
            rintro e u28 ⟨AL1, CL1, rfl, hN⟩
            have hotL1 := hN.1.sl ucell_len
            have hs := hs.trans hN.2.2 (fun _ _ h => h)
            refine hK _ _ (Lat.mk_ (Frm.mono hs (fun _ _ h => h.elim))) ?_
            clear hK K
            clear hN
            repeat (any_goals (first | go_big_quiet_step (fail) | quiet_step (fail)))
            refine wpQuiet_nil ?_
            refine effStep_plain rfl fun K hK => ?_
            go_simp
            refine (KSJH.out Ak Ck AL1 CL1 _ ⟨(hqs.same hs).wl, SMS0H.out⟩ ⟨hotL1, SMM0H.out⟩).mono ?_
            rintro e u29 ⟨AL2, CL2, rfl, hN⟩
            have hotL1 := Sl.same hotL1 hN.2.2
            have hnk : ∀ a, AL2 = some a → a.block ≠ Ts := fun a ha h => by
              have h1 := hN.2.1 a.block ⟨a, ha, rfl⟩
              have h2 := (hqs.same hs).blk.lt
              omega
            have hotL2 := hN.1.sl ucell_len
            have hs := hs.trans hN.2.2 (fun _ _ h => h)
            refine hK _ _ (Lat.mk_ (Frm.mono hs (fun _ _ h => h.elim))) ?_
            clear hK K
            clear hN
            repeat (any_goals (first | go_big_quiet_step (fail) | quiet_step (fail)))
            refine wpQuiet_nil ?_
            clear hotL1
            clear cs0 cs1 ls cx0 cx1 lx cy0 cy1 ly
            replace hqs := hqs.same hs
            replace HSR := Lib.hid (HSR.out.trans hs (fun _ _ h => h))
            have cs0 := hqs.blk.cell 0
            have cs1 := hqs.blk.cell 1
            have ls := hqs.blk.lt
            have fs0 := hqs.blk.free 0
            have fs1 := hqs.blk.free 1
            go_wp2
            go_roundw
            case rel =>

              refine ⟨1, s1, AL2, CL2, by simp, rfl, ((HFR.out.trans HSR.out (fun _ _ h => h.elim)).set 0 _ rfl).set 1 _ rfl, ?_, ?_⟩
              · have := (hqs.blk.set 0 (.int .i64 n)).set 1 (.slice AL2 s1.length CL2)
                simpa using this
              · exact WL.turn hotL2 (((Frm.refl (fun b => b = Ts) _).set 0 _ rfl).set 1 _ rfl) hnk
            case measure => simp [intOf]
      · cases hb : op.testBit 1 with
        | false =>
          have hbj := B1H.out
          rw [hb] at hbj
          simp only [Bool.not_false] at hbj
          go_wp2
          exact ⟨⟨2, s2, Ak, Ck, by simp, rfl, HFR.out, by rw [← Z1H.out hb]; exact hqs⟩, by simp [intOf]⟩
        | true =>
          have hbj := B1H.out
          rw [hb] at hbj
          simp only [Bool.not_true] at hbj
          have kSj := KS1H.out
          simp only [E1H.out hb] at kSj
          have KSJH := Lib.hid kSj
          clear kSj
          have ca0 : wr.cell? ⟨Ta, 0, none⟩ = some (.int .i64 n) := hqa.blk.cell 0
          have ca1 : wr.cell? ⟨Ta, 1, none⟩ = some (.slice Aa wsa.length Ca) := hqa.blk.cell 1
          have la := hqa.blk.lt
          have cb0 : wr.cell? ⟨Tb, 0, none⟩ = some (.int .i64 n) := hqb.blk.cell 0
          have cb1 : wr.cell? ⟨Tb, 1, none⟩ = some (.slice Ab wsb.length Cb) := hqb.blk.cell 1
          have lb := hqb.blk.lt
          go_upto_region 16 with fail
          go_cut [13, 14] from 159 (fun s13 s14 wx => ∃ Tx Ty : Nat, s13 = .pointer (some ⟨Tx, 0, none⟩) ∧ s14 = .pointer (some ⟨Ty, 0, none⟩) ∧ wr.heap.size ≤ Tx ∧ wr.heap.size ≤ Ty ∧ Tx ≠ Ty ∧
            Blk wx Tx 24 #[.int .i64 n, .slice Aa wsa.length Ca] ∧ Blk wx Ty 24 #[.int .i64 n, .slice Ab wsb.length Cb] ∧ Same wr wx)
          case first =>
            refine wp_fS (fun _ => False) (.q [0, 1] (.br 2 (.br 3 (.br 4 (.last 5) .stop) .stop) (.br 3 (.br 2 (.br 4 (.last 5) .stop) .stop) .stop))) (by kernel_rfl) (by kernel_rfl) ?_
            simp only [wpF, pick, List.map_cons, List.map_nil, List.getD_cons_zero, List.getD_cons_succ]
            have hqd : Same wr wr.drew := (Frm.refl _ _).drew
            repeat (any_goals (first | go_big_quiet_step (fail) | quiet_step (fail)))
            refine wpQuiet_nil ?_
            refine ⟨?_, ?_⟩
            · refine effStep_plain rfl fun K hK => ?_
              go_simp
              refine hK _ _ (Lat.mk_ (Frm.alloc hqd _)) ?_
              clear hK K
              refine effStep_plain rfl fun K hK => ?_
              go_simp
              refine hK _ _ (Lat.mk_ (Frm.alloc (Frm.alloc hqd _) _)) ?_
              clear hK K
              refine effStep_plain rfl fun K hK => ?_
              go_simp
              refine hK _ _ (Lat.mk_ (Frm.drew (Frm.alloc (Frm.alloc (Frm.refl _ _) _) _))) ?_
              clear hK K
              go_wp2_with fail
              go_meet
              obtain ⟨g1, g2, g4⟩ := two_made2 wr #[.int .i64 n, .slice Aa wsa.length Ca] #[.int .i64 n, .slice Ab wsb.length Cb]
              exact ⟨wr.heap.size, wr.heap.size + 1, rfl, rfl, by omega, by omega, by omega, g1, g2, g4⟩
            · refine effStep_plain rfl fun K hK => ?_
              go_simp
              refine hK _ _ (Lat.mk_ (Frm.alloc hqd _)) ?_
              clear hK K
              refine effStep_plain rfl fun K hK => ?_
              go_simp
              refine hK _ _ (Lat.mk_ (Frm.alloc (Frm.alloc hqd _) _)) ?_
              clear hK K
              refine effStep_plain rfl fun K hK => ?_
              go_simp
              refine hK _ _ (Lat.mk_ (Frm.drew (Frm.alloc (Frm.alloc (Frm.refl _ _) _) _))) ?_
              clear hK K
              go_wp2_with fail
              go_meet
              obtain ⟨g1, g2, g4⟩ := two_made2 wr #[.int .i64 n, .slice Ab wsb.length Cb] #[.int .i64 n, .slice Aa wsa.length Ca]
              exact ⟨wr.heap.size + 1, wr.heap.size, rfl, rfl, by omega, by omega, by omega, g2, g1, g4⟩
          case rest =>
            obtain ⟨Tx, Ty, rfl, rfl, hTx, hTy, hxy, gX, gY, hs⟩ := hcut
            have HSR := Lib.hid hs
            have hqa0 := hqa
            have hqb0 := hqb
            have hqs0 := hqs
            clear hs ca0 ca1 la cb0 cb1 lb hqa hqb hqs hbj
            have hqa := hqa0.same HSR.out
            have ca0 : wc.cell? ⟨Ta, 0, none⟩ = some (.int .i64 n) := hqa.blk.cell 0
            have ca1 : wc.cell? ⟨Ta, 1, none⟩ = some (.slice Aa wsa.length Ca) := hqa.blk.cell 1
            have la := hqa.blk.lt
            go_wp2_with (fail)
            refine (KNAH.out Aa Ca wc ⟨hqa.wl, SMAH.out⟩).mono ?_
            rintro e uX ⟨Ana, Cna, rfl, hN⟩
            clear ca0 ca1 la hqa
            have hn1 : ∀ a, Ana = some a → a.block ≠ Tx := fun a ha h => by
              have h1 := hN.2.1 a.block ⟨a, ha, rfl⟩
              have h2 := gX.lt
              omega
            have hnX : ∀ a, Ana = some a → a.block ≠ Ty := fun a ha h => by
              have h1 := hN.2.1 a.block ⟨a, ha, rfl⟩
              have h2 := gY.lt
              omega
            replace gX := gX.frm hN.2.2 id
            replace gY := gY.frm hN.2.2 id
            replace HSR := Lib.hid (HSR.out.trans hN.2.2 (fun _ _ h => h))
            have how := hN.1.sl ucell_len
            clear hN
            have cz0 := gX.cell 0
            have cz1 := gX.cell 1
            have lz := gX.lt
            have fz0 := gX.free 0
            have fz1 := gX.free 1
            go_upto_region 19 with fail
            refine wp_world fun bX hb2 => ?_
            have hft : Frm (fun b => b = Tx) uX bX := by rw [hb2]; exact ((Frm.refl (fun b => b = Tx) _).set 0 _ rfl).set 1 _ rfl
            have g1 : Blk bX Tx 24 #[.int .i64 n, .slice Ana na.length Cna] := by
              rw [hb2]
              have := (gX.set 0 (.int .i64 n)).set 1 (.slice Ana na.length Cna)
              simpa using this
            replace HSR := Lib.hid (show Same wr bX by rw [hb2]; exact (HSR.out.setNew 0 _ hTx).setNew 1 _ hTx)
            replace gY := gY.frm hft (fun (h : Ty = Tx) => by omega)
            have hoX := WL.turn how hft hn1
            clear gX cz0 cz1 lz fz0 fz1 hft hn1 how hb2
            have gX := g1
            clear g1
            have hqx : Tv bX Tx n Ana Cna na := ⟨gX, hoX⟩
            have hqy : Tv bX Ty n Ab Cb wsb := ⟨gY, (hqb0.same HSR.out).wl⟩
            have hqs := hqs0.same HSR.out
            have cs0 : bX.cell? ⟨Ts, 0, none⟩ = some (.int .i64 n) := hqs.blk.cell 0
            have cs1 : bX.cell? ⟨Ts, 1, none⟩ = some (.slice Ak s1.length Ck) := hqs.blk.cell 1
            have ls := hqs.blk.lt
            have cx0 : bX.cell? ⟨Tx, 0, none⟩ = some (.int .i64 n) := hqx.blk.cell 0
            have cx1 : bX.cell? ⟨Tx, 1, none⟩ = some (.slice Ana na.length Cna) := hqx.blk.cell 1
            have lx := hqx.blk.lt
            have cy0 : bX.cell? ⟨Ty, 0, none⟩ = some (.int .i64 n) := hqy.blk.cell 0
            have cy1 : bX.cell? ⟨Ty, 1, none⟩ = some (.slice Ab wsb.length Cb) := hqy.blk.cell 1
            have ly := hqy.blk.lt
            go_upto_region 21 with fail
            refine wp_phS (fun _ => False) [([0, 1, 2], 3), ([], 4), ([], 5)] (by kernel_rfl) (by kernel_rfl) ?_
            simp only [wpPh, pick, List.map_cons, List.map_nil, List.getD_cons_zero, List.getD_cons_succ]
            have hs : Same bX bX.drew := (Frm.refl _ _).drew
            repeat (any_goals (first | go_big_quiet_step (fail) | quiet_step (fail)))
            refine wpQuiet_nil ?_
            refine effStep_plain rfl fun K hK => ?_
            go_simp
            refine (KNBBH.out Ana Cna Ab Cb _ ⟨(hqx.same hs).wl, SMNAH.out⟩ ⟨(hqy.same hs).wl, SMBH.out⟩).mono ?_
            rintro e u28 ⟨AL1, CL1, rfl, hN⟩
            have hotL1 := hN.1.sl ucell_len
            have hs := hs.trans hN.2.2 (fun _ _ h => h)
            refine hK _ _ (Lat.mk_ (Frm.mono hs (fun _ _ h => h.elim))) ?_
            clear hK K
            clear hN
            repeat (any_goals (first | go_big_quiet_step (fail) | quiet_step (fail)))
            refine wpQuiet_nil ?_
            refine effStep_plain rfl fun K hK => ?_
            go_simp
            refine (KSJH.out Ak Ck AL1 CL1 _ ⟨(hqs.same hs).wl, SMS1H.out⟩ ⟨hotL1, SMNBBH.out⟩).mono ?_
            rintro e u29 ⟨AL2, CL2, rfl, hN⟩
            have hotL1 := Sl.same hotL1 hN.2.2
            have hnk : ∀ a, AL2 = some a → a.block ≠ Ts := fun a ha h => by
              have h1 := hN.2.1 a.block ⟨a, ha, rfl⟩
              have h2 := (hqs.same hs).blk.lt
              omega
            have hotL2 := hN.1.sl ucell_len
            have hs := hs.trans hN.2.2 (fun _ _ h => h)
            refine hK _ _ (Lat.mk_ (Frm.mono hs (fun _ _ h => h.elim))) ?_
            clear hK K
            clear hN
            repeat (any_goals (first | go_big_quiet_step (fail) | quiet_step (fail)))
            refine wpQuiet_nil ?_
            clear hotL1
            clear cs0 cs1 ls cx0 cx1 lx cy0 cy1 ly
            replace hqs := hqs.same hs
            replace HSR := Lib.hid (HSR.out.trans hs (fun _ _ h => h))
            have cs0 := hqs.blk.cell 0
            have cs1 := hqs.blk.cell 1
            have ls := hqs.blk.lt
            have fs0 := hqs.blk.free 0
            have fs1 := hqs.blk.free 1
            go_wp2
            go_roundw
            case rel =>

              refine ⟨2, s2, AL2, CL2, by simp, rfl, ((HFR.out.trans HSR.out (fun _ _ h => h.elim)).set 0 _ rfl).set 1 _ rfl, ?_, ?_⟩
              · have := (hqs.blk.set 0 (.int .i64 n)).set 1 (.slice AL2 s2.length CL2)
                simpa using this
              · exact WL.turn hotL2 (((Frm.refl (fun b => b = Ts) _).set 0 _ rfl).set 1 _ rfl) hnk
            case measure => simp [intOf]
      · cases hb : op.testBit 2 with
        | false =>
          have hbj := B2H.out
          rw [hb] at hbj
          simp only [Bool.not_false] at hbj
          go_wp2
          exact ⟨⟨3, s3, Ak, Ck, by simp, rfl, HFR.out, by rw [← Z2H.out hb]; exact hqs⟩, by simp [intOf]⟩
        | true =>
          have hbj := B2H.out
          rw [hb] at hbj
          simp only [Bool.not_true] at hbj
          have kSj := KS2H.out
          simp only [E2H.out hb] at kSj
          have KSJH := Lib.hid kSj
          clear kSj
          have ca0 : wr.cell? ⟨Ta, 0, none⟩ = some (.int .i64 n) := hqa.blk.cell 0
          have ca1 : wr.cell? ⟨Ta, 1, none⟩ = some (.slice Aa wsa.length Ca) := hqa.blk.cell 1
          have la := hqa.blk.lt
          have cb0 : wr.cell? ⟨Tb, 0, none⟩ = some (.int .i64 n) := hqb.blk.cell 0
          have cb1 : wr.cell? ⟨Tb, 1, none⟩ = some (.slice Ab wsb.length Cb) := hqb.blk.cell 1
          have lb := hqb.blk.lt
          go_upto_region 16 with fail
          go_cut [13, 14] from 159 (fun s13 s14 wx => ∃ Tx Ty : Nat, s13 = .pointer (some ⟨Tx, 0, none⟩) ∧ s14 = .pointer (some ⟨Ty, 0, none⟩) ∧ wr.heap.size ≤ Tx ∧ wr.heap.size ≤ Ty ∧ Tx ≠ Ty ∧
            Blk wx Tx 24 #[.int .i64 n, .slice Aa wsa.length Ca] ∧ Blk wx Ty 24 #[.int .i64 n, .slice Ab wsb.length Cb] ∧ Same wr wx)
          case first =>
            refine wp_fS (fun _ => False) (.q [0, 1] (.br 2 (.br 3 (.br 4 (.last 5) .stop) .stop) (.br 3 (.br 2 (.br 4 (.last 5) .stop) .stop) .stop))) (by kernel_rfl) (by kernel_rfl) ?_
            simp only [wpF, pick, List.map_cons, List.map_nil, List.getD_cons_zero, List.getD_cons_succ]
            have hqd : Same wr wr.drew := (Frm.refl _ _).drew
            repeat (any_goals (first | go_big_quiet_step (fail) | quiet_step (fail)))
            refine wpQuiet_nil ?_
            refine ⟨?_, ?_⟩
            · refine effStep_plain rfl fun K hK => ?_
              go_simp
              refine hK _ _ (Lat.mk_ (Frm.alloc hqd _)) ?_
              clear hK K
              refine effStep_plain rfl fun K hK => ?_
              go_simp
              refine hK _ _ (Lat.mk_ (Frm.alloc (Frm.alloc hqd _) _)) ?_
              clear hK K
              refine effStep_plain rfl fun K hK => ?_
              go_simp
              refine hK _ _ (Lat.mk_ (Frm.drew (Frm.alloc (Frm.alloc (Frm.refl _ _) _) _))) ?_
              clear hK K
              go_wp2_with fail
              go_meet
              obtain ⟨g1, g2, g4⟩ := two_made2 wr #[.int .i64 n, .slice Aa wsa.length Ca] #[.int .i64 n, .slice Ab wsb.length Cb]
              exact ⟨wr.heap.size, wr.heap.size + 1, rfl, rfl, by omega, by omega, by omega, g1, g2, g4⟩
            · refine effStep_plain rfl fun K hK => ?_
              go_simp
              refine hK _ _ (Lat.mk_ (Frm.alloc hqd _)) ?_
              clear hK K
              refine effStep_plain rfl fun K hK => ?_
              go_simp
              refine hK _ _ (Lat.mk_ (Frm.alloc (Frm.alloc hqd _) _)) ?_
              clear hK K
              refine effStep_plain rfl fun K hK => ?_
              go_simp
              refine hK _ _ (Lat.mk_ (Frm.drew (Frm.alloc (Frm.alloc (Frm.refl _ _) _) _))) ?_
              clear hK K
              go_wp2_with fail
              go_meet
              obtain ⟨g1, g2, g4⟩ := two_made2 wr #[.int .i64 n, .slice Ab wsb.length Cb] #[.int .i64 n, .slice Aa wsa.length Ca]
              exact ⟨wr.heap.size + 1, wr.heap.size, rfl, rfl, by omega, by omega, by omega, g2, g1, g4⟩
          case rest =>
            obtain ⟨Tx, Ty, rfl, rfl, hTx, hTy, hxy, gX, gY, hs⟩ := hcut
            have HSR := Lib.hid hs
            have hqa0 := hqa
            have hqb0 := hqb
            have hqs0 := hqs
            clear hs ca0 ca1 la cb0 cb1 lb hqa hqb hqs hbj
            have hqb := hqb0.same HSR.out
            have cb0 : wc.cell? ⟨Tb, 0, none⟩ = some (.int .i64 n) := hqb.blk.cell 0
            have cb1 : wc.cell? ⟨Tb, 1, none⟩ = some (.slice Ab wsb.length Cb) := hqb.blk.cell 1
            have lb := hqb.blk.lt
            go_wp2_with (fail)
            refine (KNBH.out Ab Cb wc ⟨hqb.wl, SMBH.out⟩).mono ?_
            rintro e uY ⟨Anb, Cnb, rfl, hN⟩
            clear cb0 cb1 lb hqb
            have hn1 : ∀ a, Anb = some a → a.block ≠ Ty := fun a ha h => by
              have h1 := hN.2.1 a.block ⟨a, ha, rfl⟩
              have h2 := gY.lt
              omega
            have hnY : ∀ a, Anb = some a → a.block ≠ Tx := fun a ha h => by
              have h1 := hN.2.1 a.block ⟨a, ha, rfl⟩
              have h2 := gX.lt
              omega
            replace gY := gY.frm hN.2.2 id
            replace gX := gX.frm hN.2.2 id
            replace HSR := Lib.hid (HSR.out.trans hN.2.2 (fun _ _ h => h))
            have how := hN.1.sl ucell_len
            clear hN
            have cz0 := gY.cell 0
            have cz1 := gY.cell 1
            have lz := gY.lt
            have fz0 := gY.free 0
            have fz1 := gY.free 1
            go_upto_region 21 with fail
            refine wp_world fun bY hb2 => ?_
            have hft : Frm (fun b => b = Ty) uY bY := by rw [hb2]; exact ((Frm.refl (fun b => b = Ty) _).set 0 _ rfl).set 1 _ rfl
            have g1 : Blk bY Ty 24 #[.int .i64 n, .slice Anb nb.length Cnb] := by
              rw [hb2]
              have := (gY.set 0 (.int .i64 n)).set 1 (.slice Anb nb.length Cnb)
              simpa using this
            replace HSR := Lib.hid (show Same wr bY by rw [hb2]; exact (HSR.out.setNew 0 _ hTy).setNew 1 _ hTy)
            replace gX := gX.frm hft (fun (h : Tx = Ty) => by omega)
            have hoY := WL.turn how hft hn1
            clear gY cz0 cz1 lz fz0 fz1 hft hn1 how hb2
            have gY := g1
            clear g1
            have hqx : Tv bY Tx n Aa Ca wsa := ⟨gX, (hqa0.same HSR.out).wl⟩
            have hqy : Tv bY Ty n Anb Cnb nb := ⟨gY, hoY⟩
            have hqs := hqs0.same HSR.out
            have cs0 : bY.cell? ⟨Ts, 0, none⟩ = some (.int .i64 n) := hqs.blk.cell 0
            have cs1 : bY.cell? ⟨Ts, 1, none⟩ = some (.slice Ak s2.length Ck) := hqs.blk.cell 1
            have ls := hqs.blk.lt
            have cx0 : bY.cell? ⟨Tx, 0, none⟩ = some (.int .i64 n) := hqx.blk.cell 0
            have cx1 : bY.cell? ⟨Tx, 1, none⟩ = some (.slice Aa wsa.length Ca) := hqx.blk.cell 1
            have lx := hqx.blk.lt
            have cy0 : bY.cell? ⟨Ty, 0, none⟩ = some (.int .i64 n) := hqy.blk.cell 0
            have cy1 : bY.cell? ⟨Ty, 1, none⟩ = some (.slice Anb nb.length Cnb) := hqy.blk.cell 1
            have ly := hqy.blk.lt
            go_upto_region 21 with fail
            refine wp_phS (fun _ => False) [([0, 1, 2], 3), ([], 4), ([], 5)] (by kernel_rfl) (by kernel_rfl) ?_
            simp only [wpPh, pick, List.map_cons, List.map_nil, List.getD_cons_zero, List.getD_cons_succ]
            have hs : Same bY bY.drew := (Frm.refl _ _).drew
            repeat (any_goals (first | go_big_quiet_step (fail) | quiet_step (fail)))
            refine wpQuiet_nil ?_
            refine effStep_plain rfl fun K hK => ?_
            go_simp
            refine (KANBH.out Aa Ca Anb Cnb _ ⟨(hqx.same hs).wl, SMAH.out⟩ ⟨(hqy.same hs).wl, SMNBH.out⟩).mono ?_
            rintro e u28 ⟨AL1, CL1, rfl, hN⟩
            have hotL1 := hN.1.sl ucell_len
            have hs := hs.trans hN.2.2 (fun _ _ h => h)
            refine hK _ _ (Lat.mk_ (Frm.mono hs (fun _ _ h => h.elim))) ?_
            clear hK K
            clear hN
            repeat (any_goals (first | go_big_quiet_step (fail) | quiet_step (fail)))
            refine wpQuiet_nil ?_
            refine effStep_plain rfl fun K hK => ?_
            go_simp
            refine (KSJH.out Ak Ck AL1 CL1 _ ⟨(hqs.same hs).wl, SMS2H.out⟩ ⟨hotL1, SMANBH.out⟩).mono ?_
            rintro e u29 ⟨AL2, CL2, rfl, hN⟩
            have hotL1 := Sl.same hotL1 hN.2.2
            have hnk : ∀ a, AL2 = some a → a.block ≠ Ts := fun a ha h => by
              have h1 := hN.2.1 a.block ⟨a, ha, rfl⟩
              have h2 := (hqs.same hs).blk.lt
              omega
            have hotL2 := hN.1.sl ucell_len
            have hs := hs.trans hN.2.2 (fun _ _ h => h)
            refine hK _ _ (Lat.mk_ (Frm.mono hs (fun _ _ h => h.elim))) ?_
            clear hK K
            clear hN
            repeat (any_goals (first | go_big_quiet_step (fail) | quiet_step (fail)))
            refine wpQuiet_nil ?_
            clear hotL1
            clear cs0 cs1 ls cx0 cx1 lx cy0 cy1 ly
            replace hqs := hqs.same hs
            replace HSR := Lib.hid (HSR.out.trans hs (fun _ _ h => h))
            have cs0 := hqs.blk.cell 0
            have cs1 := hqs.blk.cell 1
            have ls := hqs.blk.lt
            have fs0 := hqs.blk.free 0
            have fs1 := hqs.blk.free 1
            go_wp2
            go_roundw
            case rel =>

              refine ⟨3, s3, AL2, CL2, by simp, rfl, ((HFR.out.trans HSR.out (fun _ _ h => h.elim)).set 0 _ rfl).set 1 _ rfl, ?_, ?_⟩
              · have := (hqs.blk.set 0 (.int .i64 n)).set 1 (.slice AL2 s3.length CL2)
                simpa using this
              · exact WL.turn hotL2 (((Frm.refl (fun b => b = Ts) _).set 0 _ rfl).set 1 _ rfl) hnk
            case measure => simp [intOf]
      · cases hb : op.testBit 3 with
        | false =>
          have hbj := B3H.out
          rw [hb] at hbj
          simp only [Bool.not_false] at hbj
          go_wp2
          exact ⟨⟨4, s4, Ak, Ck, by simp, rfl, HFR.out, by rw [← Z3H.out hb]; exact hqs⟩, by simp [intOf]⟩
        | true =>
          have hbj := B3H.out
          rw [hb] at hbj
          simp only [Bool.not_true] at hbj
          have kSj := KS3H.out
          simp only [E3H.out hb] at kSj
          have KSJH := Lib.hid kSj
          clear kSj
          have ca0 : wr.cell? ⟨Ta, 0, none⟩ = some (.int .i64 n) := hqa.blk.cell 0
          have ca1 : wr.cell? ⟨Ta, 1, none⟩ = some (.slice Aa wsa.length Ca) := hqa.blk.cell 1
          have la := hqa.blk.lt
          have cb0 : wr.cell? ⟨Tb, 0, none⟩ = some (.int .i64 n) := hqb.blk.cell 0
          have cb1 : wr.cell? ⟨Tb, 1, none⟩ = some (.slice Ab wsb.length Cb) := hqb.blk.cell 1
          have lb := hqb.blk.lt
          go_upto_region 16 with fail
          go_cut [13, 14] from 159 (fun s13 s14 wx => ∃ Tx Ty : Nat, s13 = .pointer (some ⟨Tx, 0, none⟩) ∧ s14 = .pointer (some ⟨Ty, 0, none⟩) ∧ wr.heap.size ≤ Tx ∧ wr.heap.size ≤ Ty ∧ Tx ≠ Ty ∧
            Blk wx Tx 24 #[.int .i64 n, .slice Aa wsa.length Ca] ∧ Blk wx Ty 24 #[.int .i64 n, .slice Ab wsb.length Cb] ∧ Same wr wx)
          case first =>
            refine wp_fS (fun _ => False) (.q [0, 1] (.br 2 (.br 3 (.br 4 (.last 5) .stop) .stop) (.br 3 (.br 2 (.br 4 (.last 5) .stop) .stop) .stop))) (by kernel_rfl) (by kernel_rfl) ?_
            simp only [wpF, pick, List.map_cons, List.map_nil, List.getD_cons_zero, List.getD_cons_succ]
            have hqd : Same wr wr.drew := (Frm.refl _ _).drew
            repeat (any_goals (first | go_big_quiet_step (fail) | quiet_step (fail)))
            refine wpQuiet_nil ?_
            refine ⟨?_, ?_⟩
            · refine effStep_plain rfl fun K hK => ?_
              go_simp
              refine hK _ _ (Lat.mk_ (Frm.alloc hqd _)) ?_
              clear hK K
              refine effStep_plain rfl fun K hK => ?_
              go_simp
              refine hK _ _ (Lat.mk_ (Frm.alloc (Frm.alloc hqd _) _)) ?_
              clear hK K
              refine effStep_plain rfl fun K hK => ?_
              go_simp
              refine hK _ _ (Lat.mk_ (Frm.drew (Frm.alloc (Frm.alloc (Frm.refl _ _) _) _))) ?_
              clear hK K
              go_wp2_with fail
              go_meet
              obtain ⟨g1, g2, g4⟩ := two_made2 wr #[.int .i64 n, .slice Aa wsa.length Ca] #[.int .i64 n, .slice Ab wsb.length Cb]
              exact ⟨wr.heap.size, wr.heap.size + 1, rfl, rfl, by omega, by omega, by omega, g1, g2, g4⟩
            · refine effStep_plain rfl fun K hK => ?_
              go_simp
              refine hK _ _ (Lat.mk_ (Frm.alloc hqd _)) ?_
              clear hK K
              refine effStep_plain rfl fun K hK => ?_
              go_simp
              refine hK _ _ (Lat.mk_ (Frm.alloc (Frm.alloc hqd _) _)) ?_
              clear hK K
              refine effStep_plain rfl fun K hK => ?_
              go_simp
              refine hK _ _ (Lat.mk_ (Frm.drew (Frm.alloc (Frm.alloc (Frm.refl _ _) _) _))) ?_
              clear hK K
              go_wp2_with fail
              go_meet
              obtain ⟨g1, g2, g4⟩ := two_made2 wr #[.int .i64 n, .slice Ab wsb.length Cb] #[.int .i64 n, .slice Aa wsa.length Ca]
              exact ⟨wr.heap.size + 1, wr.heap.size, rfl, rfl, by omega, by omega, by omega, g2, g1, g4⟩
          case rest =>
            obtain ⟨Tx, Ty, rfl, rfl, hTx, hTy, hxy, gX, gY, hs⟩ := hcut
            have HSR := Lib.hid hs
            have hqa0 := hqa
            have hqb0 := hqb
            have hqs0 := hqs
            clear hs ca0 ca1 la cb0 cb1 lb hqa hqb hqs hbj
            have hqx : Tv wc Tx n Aa Ca wsa := ⟨gX, (hqa0.same HSR.out).wl⟩
            have hqy : Tv wc Ty n Ab Cb wsb := ⟨gY, (hqb0.same HSR.out).wl⟩
            have hqs := hqs0.same HSR.out
            have cs0 : wc.cell? ⟨Ts, 0, none⟩ = some (.int .i64 n) := hqs.blk.cell 0
            have cs1 : wc.cell? ⟨Ts, 1, none⟩ = some (.slice Ak s3.length Ck) := hqs.blk.cell 1
            have ls := hqs.blk.lt
            have cx0 : wc.cell? ⟨Tx, 0, none⟩ = some (.int .i64 n) := hqx.blk.cell 0
            have cx1 : wc.cell? ⟨Tx, 1, none⟩ = some (.slice Aa wsa.length Ca) := hqx.blk.cell 1
            have lx := hqx.blk.lt
            have cy0 : wc.cell? ⟨Ty, 0, none⟩ = some (.int .i64 n) := hqy.blk.cell 0
            have cy1 : wc.cell? ⟨Ty, 1, none⟩ = some (.slice Ab wsb.length Cb) := hqy.blk.cell 1
            have ly := hqy.blk.lt
            go_upto_region 21 with fail
            refine wp_phS (fun _ => False) [([0, 1, 2], 3), ([], 4), ([], 5)] (by kernel_rfl) (by kernel_rfl) ?_
            simp only [wpPh, pick, List.map_cons, List.map_nil, List.getD_cons_zero, List.getD_cons_succ]
            have hs : Same wc wc.drew := (Frm.refl _ _).drew
            repeat (any_goals (first | go_big_quiet_step (fail) | quiet_step (fail)))
            refine wpQuiet_nil ?_
            refine effStep_plain rfl fun K hK => ?_
            go_simp
            refine (KABH.out Aa Ca Ab Cb _ ⟨(hqx.same hs).wl, SMAH.out⟩ ⟨(hqy.same hs).wl, SMBH.out⟩).mono ?_
            rintro e u28 ⟨AL1, CL1, rfl, hN⟩
            have hotL1 := hN.1.sl ucell_len
            have hs := hs.trans hN.2.2 (fun _ _ h => h)
            refine hK _ _ (Lat.mk_ (Frm.mono hs (fun _ _ h => h.elim))) ?_
            clear hK K
            clear hN
            repeat (any_goals (first | go_big_quiet_step (fail) | quiet_step (fail)))
            refine wpQuiet_nil ?_
            refine effStep_plain rfl fun K hK => ?_
            go_simp
            refine (KSJH.out Ak Ck AL1 CL1 _ ⟨(hqs.same hs).wl, SMS3H.out⟩ ⟨hotL1, SMABH.out⟩).mono ?_
            rintro e u29 ⟨AL2, CL2, rfl, hN⟩
            have hotL1 := Sl.same hotL1 hN.2.2
            have hnk : ∀ a, AL2 = some a → a.block ≠ Ts := fun a ha h => by
              have h1 := hN.2.1 a.block ⟨a, ha, rfl⟩
              have h2 := (hqs.same hs).blk.lt
              omega
            have hotL2 := hN.1.sl ucell_len
            have hs := hs.trans hN.2.2 (fun _ _ h => h)
            refine hK _ _ (Lat.mk_ (Frm.mono hs (fun _ _ h => h.elim))) ?_
            clear hK K
            clear hN
            repeat (any_goals (first | go_big_quiet_step (fail) | quiet_step (fail)))
            refine wpQuiet_nil ?_
            clear hotL1
            clear cs0 cs1 ls cx0 cx1 lx cy0 cy1 ly
            replace hqs := hqs.same hs
            replace HSR := Lib.hid (HSR.out.trans hs (fun _ _ h => h))
            have cs0 := hqs.blk.cell 0
            have cs1 := hqs.blk.cell 1
            have ls := hqs.blk.lt
            have fs0 := hqs.blk.free 0
            have fs1 := hqs.blk.free 1
            go_wp2
            go_roundw
            case rel =>

              refine ⟨4, s4, AL2, CL2, by simp, rfl, ((HFR.out.trans HSR.out (fun _ _ h => h.elim)).set 0 _ rfl).set 1 _ rfl, ?_, ?_⟩
              · have := (hqs.blk.set 0 (.int .i64 n)).set 1 (.slice AL2 s4.length CL2)
                simpa using this
              · exact WL.turn hotL2 (((Frm.refl (fun b => b = Ts) _).set 0 _ rfl).set 1 _ rfl) hnk
            case measure => simp [intOf]
      · have cs0 : wr.cell? ⟨Ts, 0, none⟩ = some (.int .i64 n) := hqs.blk.cell 0
        have cs1 : wr.cell? ⟨Ts, 1, none⟩ = some (.slice Ak s4.length Ck) := hqs.blk.cell 1
        have ls := hqs.blk.lt
        have ca0 : wr.cell? ⟨Ta, 0, none⟩ = some (.int .i64 n) := hqa.blk.cell 0
        have ca1 : wr.cell? ⟨Ta, 1, none⟩ = some (.slice Aa wsa.length Ca) := hqa.blk.cell 1
        have la := hqa.blk.lt
        have cb0 : wr.cell? ⟨Tb, 0, none⟩ = some (.int .i64 n) := hqb.blk.cell 0
        have cb1 : wr.cell? ⟨Tb, 1, none⟩ = some (.slice Ab wsb.length Cb) := hqb.blk.cell 1
        have lb := hqb.blk.lt
        go_upto_region 23 with fail
        refine wp_phS (fun _ => False) [([0, 1], 2), ([], 3), ([4, 5, 6, 7, 8], 9), ([], 10), ([11], 12)] (by kernel_rfl) (by kernel_rfl) ?_
        simp only [wpPh, pick, List.map_cons, List.map_nil, List.getD_cons_zero, List.getD_cons_succ]
        have hs : Same wr wr.drew := (Frm.refl _ _).drew
        repeat (any_goals (first | go_big_quiet_step (fail) | quiet_step (fail)))
        refine wpQuiet_nil ?_
        refine effStep_plain rfl fun K hK => ?_
        go_simp
        have hs2 := Frm.alloc hs (.cells #[.int .i64 n, .slice Ak s4.length Ck, .int .i64 n, .slice Aa wsa.length Ca] 24)
        refine hK _ _ (Lat.mk_ (Frm.mono hs2 (fun _ _ h => h.elim))) ?_
        clear hK K
        repeat (any_goals (first | go_big_quiet_step (fail) | quiet_step (fail)))
        refine wpQuiet_nil ?_
        refine effStep_plain rfl fun K hK => ?_
        go_simp
        refine call_world fun wl hwl => ?_
        have hsl : Same wr wl := by rw [hwl]; exact hs2
        have hBL : Blk wl wr.heap.size 24 #[.int .i64 n, .slice Ak s4.length Ck, .int .i64 n, .slice Aa wsa.length Ca] := by rw [hwl]; exact Blk.new _ _ _
        have htbs : Tbs wl wr.heap.size [⟨n, Ak, Ck, s4⟩, ⟨n, Aa, Ca, wsa⟩] := by
          intro i t hi
          match i, hi with
          | 0, hi =>
            simp only [List.getElem?_cons_zero, Option.some.injEq] at hi
            subst hi
            exact ⟨hBL.lt, hBL.cell 0, hBL.cell 1⟩
          | 1, hi =>
            simp only [List.getElem?_cons_zero, List.getElem?_cons_succ, Option.some.injEq] at hi
            subst hi
            exact ⟨hBL.lt, hBL.cell 2, hBL.cell 3⟩
          | i + 2, hi => simp at hi
        have hfc := good_any wr.heap.size 2 2 [⟨n, Ak, Ck, s4⟩, ⟨n, Aa, Ca, wsa⟩] wl rfl (by decide) htbs (fun t ht => by
          simp only [List.mem_cons, List.not_mem_nil, or_false] at ht
          rcases ht with rfl | rfl
          · exact ⟨(hqs.same hsl).wl, SMS4H.out⟩
          · exact ⟨(hqa.same hsl).wl, SMAH.out⟩)
        rw [G2H.out] at hfc
        refine hfc.mono ?_
        clear hfc htbs hBL hwl
        rintro e u28 ⟨rfl, hsm⟩
        have hs := hsl.trans hsm (fun _ _ h => h)
        clear hsl hsm hs2
        refine hK _ _ (Lat.mk_ (Frm.mono hs (fun _ _ h => h.elim))) ?_
        clear hK K
        repeat (any_goals (first | go_big_quiet_step (fail) | quiet_step (fail)))
        refine wpQuiet_nil ?_
        refine effStep_on (by rfl) fun K hK => ?_
        go_simp
        refine (KOPH.out Aa Ca Ab Cb _ ⟨(hqa.same hs).wl, SMAH.out⟩ ⟨(hqb.same hs).wl, SMBH.out⟩).mono ?_
        rintro e u29 ⟨AL1, CL1, rfl, hN⟩
        have hotL1 := hN.1.sl ucell_len
        have hs := hs.trans hN.2.2 (fun _ _ h => h)
        refine hK _ _ (Lat.mk_ (Frm.mono hs (fun _ _ h => h.elim))) ?_
        clear hK K
        clear hN
        repeat (any_goals (first | go_big_quiet_step (fail) | quiet_step (fail)))
        refine wpQuiet_nil ?_
        refine effStep_on (by rfl) fun K hK => ?_
        go_simp
        refine (QS4H.out Ak Ck AL1 CL1 _ (hqs.same hs).wl hotL1).mono ?_
        rintro e u30 ⟨rfl, hsz⟩
        have hotL1 := Sl.same hotL1 hsz
        have hs := hs.trans hsz (fun _ _ h => h)
        refine hK _ _ (Lat.mk_ (Frm.mono hs (fun _ _ h => h.elim))) ?_
        clear hK K
        clear hsz
        repeat (any_goals (first | go_big_quiet_step (fail) | quiet_step (fail)))
        refine wpQuiet_nil ?_
        clear hotL1
        clear cs0 cs1 ls ca0 ca1 la cb0 cb1 lb
        replace HS1 := Lib.hid (HS1.out.trans hs (fun _ _ h => h))
        go_wp2
        go_ret
        exact ⟨rfl, HS1.out.to_below (Nat.le_refl _) (fun _ _ => id)⟩
end Go.Proofs.Ytlggmoghgoeiiaa

/- Truth tables: TruthLaws: the walk, of every list. -/
namespace Go.Proofs.Ytlggmoghgoeiiaa
open Go.RowKit Go.Tk

theorem laws_walk (op : Nat) (Al : Option Addr) (Ln Cl : Nat) (w : World) (xs : List (TIn w)) (hop : op < 256) (h : Sl w 2 (fun x : TIn w => x.1.cells) Al Ln xs) :
    Calls Try.prog 7 #[.int .u8 op, .slice Al Ln Cl] w fun e w' => e = .returned (.bool true) ∧ Below w.heap.size w w' := by
  by_cases h3 : Ln < 3
  · exact laws_short op Al Ln Cl w h3
  · obtain ⟨bl, o, ⟨Na, Aa, Ca, wsa⟩, rfl, hbl, ha, la0, la1⟩ := tabs_at h (i := 0) (by omega)
    obtain ⟨_, _, ⟨Nb, Ab, Cb, wsb⟩, hA, _, hb, lb0, lb1⟩ := tabs_at h (i := 1) (by omega)
    injection hA with hA
    injection hA with h1 h2
    subst h1 h2
    obtain ⟨_, _, ⟨Nc, Ac, Cc, wsc⟩, hA, _, hc, lc0, lc1⟩ := tabs_at h (i := 2) (by omega)
    injection hA with hA
    injection hA with h1 h2
    subst h1 h2
    have la0' : w.cell? ⟨bl, o, none⟩ = some (.int .i64 Na) := by simpa using la0
    have la1' : w.cell? ⟨bl, o + 1, none⟩ = some (.slice Aa wsa.length Ca) := by simpa using la1
    cases hfm : fm [⟨Na, Aa, Ca, wsa⟩, ⟨Nb, Ab, Cb, wsb⟩, ⟨Nc, Ac, Cc, wsc⟩] with
    | false => exact laws_unform op bl o Ln Cl Na Aa Ca wsa Nb Ab Cb wsb Nc Ac Cc wsc w (by omega) hbl ha hb hc la0' la1' lb0 lb1 lc0 lc1 hfm
    | true =>
      by_cases h15 : 15 < op
      · exact laws_op op bl o Ln Cl Na Aa Ca wsa Nb Ab Cb wsb Nc Ac Cc wsc w hop (by omega) hbl ha hb hc la0' la1' lb0 lb1 lc0 lc1 hfm h15
      · obtain ⟨n, rfl, rfl, rfl, hfa, hfb, hfc⟩ := fm_three hfm
        exact laws_main op bl o Ln Cl n Aa Ca wsa Ab Cb wsb Ac Cc wsc w hop (by omega) hbl ha hb hc la0' la1' lb0 lb1 lc0 lc1 hfm hfa hfb hfc (by omega)
end Go.Proofs.Ytlggmoghgoeiiaa

/- The walk of TrLaw beside the given rows. -/
