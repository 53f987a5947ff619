/- Truth tables: slices.Equal at words; Support of the program and of the reference; DocCount. -/
import Derived.Test.YtlggmoghgoeiiaaTrJoins
namespace Go.Proofs.Ytlggmoghgoeiiaa
open Go.RowKit Go.Tk

set_option maxRecDepth 100000 in
set_option maxHeartbeats 4000000 in
theorem equalW_any (Aa : Option Addr) (La Ca : Nat) (wsa : List Nat) (Ab : Option Addr) (Lb Cb : Nat) (wsb : List Nat) (w : World) (ha : WL w Aa La wsa) (hb : WL w Ab Lb wsb) (hbd : La ≤ 1000000000000000000) :
    Calls Try.prog 75 #[.slice Aa La Ca, .slice Ab Lb Cb] w fun e w' => e = .returned (.bool (decide (wsa = wsb))) ∧ Same w w' := by
  have hla := ha.len
  have hlb := hb.len
  obtain ⟨r, hr⟩ : ∃ r, decide (wsa = wsb) = r := ⟨_, rfl⟩
  rw [hr]
  have HA := Lib.hid ha
  have HB := Lib.hid hb
  by_cases h2 : La = Lb
  · subst h2
    have HR := Lib.hid hr
    have HLA := Lib.hid hla
    have HLB := Lib.hid hlb
    clear hr hla hlb ha hb
    go_enter Try.func75, Try.ntmps75
    go_wp2
    go_loopw [13] (fun i wr => ∃ k : Nat, k ≤ La ∧ i = .int .i64 k ∧ (∀ j x y, wsa[j]? = some x → wsb[j]? = some y → j < k → x = y) ∧ Same w wr) (fun i _ => La - (intOf i).toNat)
    case atStart => exact ⟨0, by omega, rfl, fun j x y _ _ h => by omega, Frm.refl _ _⟩
    case round =>
      obtain ⟨k, hk, rfl, hall, hs⟩ := hrel
      have HALL := Lib.hid hall
      have HSR := Lib.hid hs
      clear hall
      by_cases hlt : k < La
      · have hk0 : (0 : Int) ≤ k := by omega
        have hk1 : (k : Int) < La := by omega
        obtain ⟨x, hx⟩ : ∃ x, wsa[k]? = some x := ⟨_, List.getElem?_eq_getElem (by rw [← HLA.out]; exact hlt)⟩
        obtain ⟨y, hy⟩ : ∃ x, wsb[k]? = some x := ⟨_, List.getElem?_eq_getElem (by rw [← HLB.out]; exact hlt)⟩
        obtain ⟨ba, offa, hAa, hbla, hca⟩ := WL.at1 (Sl.same HA.out hs) hx
        obtain ⟨bb, offb, hAb, hblb, hcb⟩ := WL.at1 (Sl.same HB.out hs) hy
        subst hAa hAb
        have HX := Lib.hid hx
        have HY := Lib.hid hy
        clear hx hy hs
        by_cases hxy : x = y
        · subst hxy
          have hbq : ((x : Int) != (x : Int)) = false := by simp
          go_upto_region 6 with fail
          refine wp_quiet (by kernel_rfl) (by kernel_rfl) ?_
          repeat (any_goals (first | go_big_quiet_step (fail) | quiet_step (fail)))
          refine wpQuiet_nil ?_
          rintro wq ⟨q, hq⟩
          have hsq : Same wr wq := by rw [hq]; exact more_same _ q
          clear hq
          go_wp2
          go_roundw
          case rel => exact ⟨k + 1, by omega, by go_num, fun j x' y' hx' hy' hj => by
            by_cases hjk : j < k
            · exact HALL.out j x' y' hx' hy' hjk
            · obtain rfl : j = k := by omega
              exact (Option.some.inj (hx'.symm.trans HX.out)).trans (Option.some.inj (hy'.symm.trans HY.out)).symm, HSR.out.trans hsq (fun _ _ h => h)⟩
          case measure => simp [intOf]; omega
        · have hf : r = false := by
            rw [← HR.out]
            rw [decide_eq_false_iff_not]
            intro hw
            rw [hw] at HX
            exact hxy (Option.some.inj (HX.out.symm.trans HY.out))
          subst hf
          have hxi : (x : Int) ≠ y := by omega
          go_upto_region 6 with fail
          refine wp_quiet (by kernel_rfl) (by kernel_rfl) ?_
          repeat (any_goals (first | go_big_quiet_step (fail) | quiet_step (fail)))
          refine wpQuiet_nil ?_
          rintro wq ⟨q, hq⟩
          have hsq : Same wr wq := by rw [hq]; exact more_same _ q
          clear hq
          go_wp2
          go_ret
          exact ⟨rfl, HSR.out.trans hsq (fun _ _ h => h)⟩
      · obtain rfl : k = La := by omega
        have hf : r = true := by
          rw [← HR.out]
          rw [decide_eq_true_eq]
          refine List.ext_getElem? fun j => ?_
          by_cases hj : j < k
          · obtain ⟨x, hx⟩ : ∃ x, wsa[j]? = some x := ⟨_, List.getElem?_eq_getElem (by rw [← HLA.out]; exact hj)⟩
            obtain ⟨y, hy⟩ : ∃ x, wsb[j]? = some x := ⟨_, List.getElem?_eq_getElem (by rw [← HLB.out]; exact hj)⟩
            rw [hx, hy, HALL.out j x y hx hy hj]
          · rw [List.getElem?_eq_none (by rw [← HLA.out]; omega), List.getElem?_eq_none (by rw [← HLB.out]; omega)]
        subst hf
        clear hs
        go_wp2
        go_ret
        exact ⟨rfl, HSR.out⟩
  · have hf : r = false := by
      rw [← hr]
      rw [decide_eq_false_iff_not]
      intro hw
      rw [hw] at hla
      omega
    subst hf
    have h3 : (La : Int) ≠ Lb := by omega
    clear hr hla hlb ha hb
    go_enter Try.func75, Try.ntmps75
    go_wp2
    go_ret
    exact ⟨rfl, Frm.refl _ _⟩
theorem run_words (a : Int) (A : Option Addr) (n C : Nat) (w : World) : (Instr.field 24 (.agg #[.int .i64 a, .slice A n C]) 1).run Try.prog w = .ok (.slice A n C) w := rfl
/-- does it depend on v? -/
def depB (n : Nat) (ws : List Nat) (v : Nat) : Bool := !decide (tab n (hfF v false ws) = tab n (hfF v true ws))
theorem depB_false {n : Nat} {ws : List Nat} {v : Nat} (h : ∀ i, i < 2 ^ n → hfF v false ws i = hfF v true ws i) : depB n ws v = false := by
  unfold depB
  rw [tab_congr h]
  simp
theorem depB_true {n : Nat} {ws : List Nat} {v i : Nat} (hi : i < 2 ^ n) (h : hfF v false ws i ≠ hfF v true ws i) : depB n ws v = true := by
  unfold depB
  have : tab n (hfF v false ws) ≠ tab n (hfF v true ws) := fun he => h (by
    have h2 := congrArg (fun t => vb t i) he
    simp only [vb_tab hi] at h2
    exact h2)
  simp [this]
def supN (N : Int) (ws : List Nat) : Nat := if frm N ws then bsum (depB N.toNat ws) N.toNat else 0
theorem bsum_add (F : Nat → Bool) (j : Nat) : bsum F j + (if F j then 2 ^ j else 0) = bsum F (j + 1) := rfl
set_option maxRecDepth 100000 in
set_option maxHeartbeats 8000000 in
theorem Support_any (Na : Int) (Aa : Option Addr) (Ca : Nat) (wsa : List Nat) (w : World) (h : TbOk w ⟨Na, Aa, Ca, wsa⟩) : Calls Try.prog 41 #[.agg #[.int .i64 Na, .slice Aa wsa.length Ca]] w fun e w' => e = .returned (.tuple #[.int .u64 (supN Na wsa : Nat), .int .i64 (fmE (frm Na wsa))]) ∧ Same w w' := by
  have H := Lib.hid h
  clear h
  unfold supN
  cases hfr : frm Na wsa with
  | false =>
    rw [if_neg (by decide), show fmE false = 5 from rfl]
    have HFM := Lib.hid ((frm_one Na Aa Ca wsa).trans hfr)
    clear hfr
    go_enter Try.func41, Try.ntmps41
    go_upto_region 1 with fail
    refine wp_world fun w1 hw1 => ?_
    have hs1 : Same w w1 := by rw [hw1]; exact (Frm.refl _ _).alloc _
    have hBXa : Blk w1 (w.heap.size) 24 #[.int .i64 Na, .slice Aa wsa.length Ca] := by
      rw [hw1]
      have := (Blk.new w 24 #[.int .i64 Na, .slice Aa wsa.length Ca])
      simpa using this
    clear hw1
    have cXa0 : w1.cell? ⟨w.heap.size, 0, none⟩ = some (.int .i64 Na) := hBXa.cell 0
    have cXa1 : w1.cell? ⟨w.heap.size, 1, none⟩ = some (.slice Aa wsa.length Ca) := hBXa.cell 1
    have lXa := hBXa.lt
    have fXa0 := hBXa.free 0
    have fXa1 := hBXa.free 1
    have HBXa := Lib.hid hBXa
    have HS1 := Lib.hid hs1
    clear hs1 hBXa
    have HOKa := Lib.hid (H.out.same HS1.out)
    go_wp2_with (fail)
    refine call_world fun w2 hw2 => ?_
    have hs2 : Same w1 w2 := by rw [hw2]; exact (Frm.refl _ _).alloc _
    have hBL : Blk w2 w1.heap.size 24 #[.int .i64 Na, .slice Aa wsa.length Ca] := by rw [hw2]; exact Blk.new _ _ _
    have htbs : Tbs w2 w1.heap.size [⟨Na, Aa, Ca, wsa⟩] := by
      intro i t hi
      match i, hi with
      | 0, hi =>
        simp only [List.getElem?_cons_zero, Option.some.injEq] at hi
        subst hi
        exact ⟨hBL.lt, hBL.cell 0, hBL.cell 1⟩
      | i + 1, hi => simp at hi
    have hfc := form_any w1.heap.size 1 1 [⟨Na, Aa, Ca, wsa⟩] w2 rfl (by decide) htbs (fun t ht => by
      simp only [List.mem_cons, List.not_mem_nil, or_false] at ht
      rcases ht with rfl
      · exact (HOKa.out).same hs2)
    rw [HFM.out] at hfc
    refine hfc.mono ?_
    clear hfc htbs hBL hw2
    rintro e w3 ⟨rfl, hs3⟩
    have hs13 : Same w1 w3 := hs2.trans hs3 (fun _ _ h => h)
    clear hs2 hs3
    replace HBXa := Lib.hid (HBXa.out.frm hs13 id)
    replace cXa0 : w3.cell? ⟨w.heap.size, 0, none⟩ = some (.int .i64 Na) := HBXa.out.cell 0
    replace cXa1 : w3.cell? ⟨w.heap.size, 1, none⟩ = some (.slice Aa wsa.length Ca) := HBXa.out.cell 1
    replace lXa := HBXa.out.lt
    replace fXa0 := HBXa.out.free 0
    replace fXa1 := HBXa.out.free 1
    replace HS1 := Lib.hid (HS1.out.trans hs13 (fun _ _ h => h))
    clear hs13
    go_wp2
    go_ret2
    exact ⟨rfl, HS1.out⟩
  | true =>
    obtain ⟨n, rfl, hform⟩ := frm_true hfr
    rw [if_pos rfl, show fmE true = 0 from rfl, Int.toNat_natCast]
    have HFM := Lib.hid ((frm_one n Aa Ca wsa).trans hfr)
    have hn := hform.n16
    have HF := Lib.hid hform
    clear hfr hform
    obtain ⟨pf, hpf⟩ : ∃ p, bsum (depB n wsa) n = p := ⟨_, rfl⟩
    rw [hpf]
    have HPF := Lib.hid hpf
    clear hpf
    go_enter Try.func41, Try.ntmps41
    go_upto_region 1 with fail
    refine wp_world fun w1 hw1 => ?_
    have hs1 : Same w w1 := by rw [hw1]; exact (Frm.refl _ _).alloc _
    have hBXa : Blk w1 (w.heap.size) 24 #[.int .i64 n, .slice Aa wsa.length Ca] := by
      rw [hw1]
      have := (Blk.new w 24 #[.int .i64 n, .slice Aa wsa.length Ca])
      simpa using this
    clear hw1
    have cXa0 : w1.cell? ⟨w.heap.size, 0, none⟩ = some (.int .i64 n) := hBXa.cell 0
    have cXa1 : w1.cell? ⟨w.heap.size, 1, none⟩ = some (.slice Aa wsa.length Ca) := hBXa.cell 1
    have lXa := hBXa.lt
    have fXa0 := hBXa.free 0
    have fXa1 := hBXa.free 1
    have HBXa := Lib.hid hBXa
    have HS1 := Lib.hid hs1
    clear hs1 hBXa
    have HOKa := Lib.hid (H.out.same HS1.out)
    go_wp2_with (fail)
    refine call_world fun w2 hw2 => ?_
    have hs2 : Same w1 w2 := by rw [hw2]; exact (Frm.refl _ _).alloc _
    have hBL : Blk w2 w1.heap.size 24 #[.int .i64 n, .slice Aa wsa.length Ca] := by rw [hw2]; exact Blk.new _ _ _
    have htbs : Tbs w2 w1.heap.size [⟨n, Aa, Ca, wsa⟩] := by
      intro i t hi
      match i, hi with
      | 0, hi =>
        simp only [List.getElem?_cons_zero, Option.some.injEq] at hi
        subst hi
        exact ⟨hBL.lt, hBL.cell 0, hBL.cell 1⟩
      | i + 1, hi => simp at hi
    have hfc := form_any w1.heap.size 1 1 [⟨n, Aa, Ca, wsa⟩] w2 rfl (by decide) htbs (fun t ht => by
      simp only [List.mem_cons, List.not_mem_nil, or_false] at ht
      rcases ht with rfl
      · exact (HOKa.out).same hs2)
    rw [HFM.out] at hfc
    refine hfc.mono ?_
    clear hfc htbs hBL hw2
    rintro e w3 ⟨rfl, hs3⟩
    have hs13 : Same w1 w3 := hs2.trans hs3 (fun _ _ h => h)
    clear hs2 hs3
    replace HBXa := Lib.hid (HBXa.out.frm hs13 id)
    replace cXa0 : w3.cell? ⟨w.heap.size, 0, none⟩ = some (.int .i64 n) := HBXa.out.cell 0
    replace cXa1 : w3.cell? ⟨w.heap.size, 1, none⟩ = some (.slice Aa wsa.length Ca) := HBXa.out.cell 1
    replace lXa := HBXa.out.lt
    replace fXa0 := HBXa.out.free 0
    replace fXa1 := HBXa.out.free 1
    replace HS1 := Lib.hid (HS1.out.trans hs13 (fun _ _ h => h))
    clear hs13
    go_wp2
    go_loopw [4, 12] (fun s i wr => ∃ k : Nat, k ≤ n ∧ i = .int .i64 k ∧ s = .int .u64 (bsum (depB n wsa) k : Nat) ∧ Same w3 wr) (fun _ i _ => n - (intOf i).toNat)
    case atStart => exact ⟨0, by omega, rfl, rfl, Frm.refl _ _⟩
    case round =>
      obtain ⟨k, hk, rfl, rfl, hs⟩ := hrel
      have HS0 := Lib.hid hs
      have HBr := Lib.hid (HBXa.out.frm hs id)
      have HSr := Lib.hid (HS1.out.trans hs (fun _ _ h => h))
      have dX0 : wr.cell? ⟨w.heap.size, 0, none⟩ = some (.int .i64 n) := HBr.out.cell 0
      have dX1 : wr.cell? ⟨w.heap.size, 1, none⟩ = some (.slice Aa wsa.length Ca) := HBr.out.cell 1
      have dXl := HBr.out.lt
      clear cXa0 cXa1 fXa0 fXa1 lXa hs
      by_cases hlt : k < n
      · have hk1 : (k : Int) < n := by omega
        have hbl := bsum_lt (depB n wsa) k
        have hpk : 2 ^ k ≤ 2 ^ 15 := Nat.pow_le_pow_right (by omega) (by omega)
        have hst := bsum_or (depB n wsa) k
        have hdp : (!decide (tab n (hfF k false wsa) = tab n (hfF k true wsa))) = depB n wsa k := rfl
        have HST := Lib.hid hst
        have HDP := Lib.hid hdp
        have HLK := Lib.hid hlt
        have hsw : IntKind.u64.wrap ((2 : Int) ^ k) = ((2 ^ k : Nat) : Int) := by
          rw [pow_int]
          generalize 2 ^ k = p at hpk
          exact IntWalk.u64_in _ (by omega)
        have hk0 : (0 : Int) ≤ k := by omega
        have hmk : min k 64 = k := by omega
        have hor := u64_or_nat (bsum (depB n wsa) k) (2 ^ k) (by omega) (by omega)
        rw [← pow_int k] at hor
        clear hst hdp
        generalize bsum (depB n wsa) k = bs at *
        have hfld := run_words
        go_upto_region 7 with fail
        refine wp_phS (fun _ => False) [([0, 1, 4, 5], 2), ([3], 6), ([7], 8), ([], 9)] (by kernel_rfl) (by kernel_rfl) ?_
        simp only [wpPh, pick, List.map_cons, List.map_nil, List.getD_cons_zero, List.getD_cons_succ]
        have hs : Same wr wr.drew := (Frm.refl _ _).drew
        repeat (any_goals (first | go_big_quiet_step (fail) | quiet_step (fail)))
        refine wpQuiet_nil ?_
        refine effStep_plain rfl fun K hK => ?_
        go_simp
        refine (half_any n k false Aa Ca wsa _ (H.out.same (HSr.out.trans hs (fun _ _ h => h))) HF.out HLK.out).mono ?_
        rintro e u ⟨A0, C0, rfl, hNT⟩
        have hs := hs.trans hNT.2.2 (fun _ _ h => h)
        have ho0 := hNT.1
        refine hK _ _ (Lat.mk_ (Frm.mono hs (fun _ _ h => h.elim))) ?_
        clear hK K hNT
        repeat (any_goals (first | go_big_quiet_step (fail) | quiet_step (fail)))
        refine wpQuiet_nil ?_
        refine effStep_plain rfl fun K hK => ?_
        go_simp
        refine (half_any n k true Aa Ca wsa _ (H.out.same (HSr.out.trans hs (fun _ _ h => h))) HF.out HLK.out).mono ?_
        rintro e u ⟨A1, C1, rfl, hNT⟩
        have hs := hs.trans hNT.2.2 (fun _ _ h => h)
        have ho0 := Own.frm ho0 hNT.2.2 (fun _ _ => id)
        have ho1 := hNT.1
        refine hK _ _ (Lat.mk_ (Frm.mono hs (fun _ _ h => h.elim))) ?_
        clear hK K hNT
        repeat (any_goals (first | go_big_quiet_step (fail) | quiet_step (fail)))
        refine wpQuiet_nil ?_
        refine effStep_plain rfl fun K hK => ?_
        go_simp
        refine (equalW_any A0 _ C0 _ A1 _ C1 _ _ (ho0.sl ucell_len) (ho1.sl ucell_len) (tab_len_le hn)).mono ?_
        rintro e u ⟨rfl, hsz⟩
        have hs := hs.trans hsz (fun _ _ h => h)
        have hdd := HDP.out
        refine hK _ _ (Lat.mk_ (Frm.mono hs (fun _ _ h => h.elim))) ?_
        generalize decide (tab n (hfF k false wsa) = tab n (hfF k true wsa)) = dd at *
        have HDD := Lib.hid hdd
        clear hK K hsz ho0 ho1 hdd
        have HSN := Lib.hid (HS0.out.trans hs (fun _ _ h => h))
        have hBX := HBr.out.frm hs id
        clear hs
        cases dd
        · have hd : depB n wsa k = true := HDD.out.symm
          rw [hd, if_pos rfl] at HST
          refine wpQuiet_nil ?_
          go_wp2
          go_roundw
          case rel => exact ⟨k + 1, by omega, by go_num, by rw [← HST.out], HSN.out⟩
          case measure => simp [intOf]; omega
        · have hd : depB n wsa k = false := HDD.out.symm
          rw [hd, if_neg (by decide), Nat.or_zero] at HST
          refine wpQuiet_nil ?_
          go_wp2
          go_roundw
          case rel => exact ⟨k + 1, by omega, by go_num, by rw [← HST.out], HSN.out⟩
          case measure => simp [intOf]; omega
      · obtain rfl : k = n := by omega
        rw [HPF.out]
        go_wp2
        go_ret2
        exact ⟨rfl, HSr.out⟩
set_option maxRecDepth 100000 in
set_option maxHeartbeats 8000000 in
theorem docCount_any (Na : Int) (Aa : Option Addr) (Ca : Nat) (wsa : List Nat) (w : World) (h : TbOk w ⟨Na, Aa, Ca, wsa⟩) : Calls Try.prog 43 #[.agg #[.int .i64 Na, .slice Aa wsa.length Ca]] w fun e w' => e = .returned (.tuple #[.int .u64 ((if frm Na wsa then popS wsa wsa.length else 0 : Nat) : Nat), .int .i64 (fmE (frm Na wsa))]) ∧ Same w w' := by
  have Ha := Lib.hid h
  have hrf := fun (w' : World) (hs : Same w w') => rForm_any Na Aa _ Ca wsa w' (Sl.same h.wl hs) h.small
  simp only at hrf
  clear h
  cases hfr : frm Na wsa with
  | false =>
    rw [if_neg (by decide), show fmE false = 5 from rfl]
    rw [hfr] at hrf
    have HRF := Lib.hid hrf
    clear hfr hrf
    go_enter Try.func43, Try.ntmps43
    go_upto_region 1 with fail
    refine wp_world fun w1 hw1 => ?_
    have hs1 : Same w w1 := by rw [hw1]; exact (Frm.refl _ _).alloc _
    have hBXa : Blk w1 (w.heap.size) 24 #[.int .i64 Na, .slice Aa wsa.length Ca] := by
      rw [hw1]
      have := (Blk.new w 24 #[.int .i64 Na, .slice Aa wsa.length Ca])
      simpa using this
    clear hw1
    have cXa0 : w1.cell? ⟨w.heap.size, 0, none⟩ = some (.int .i64 Na) := hBXa.cell 0
    have cXa1 : w1.cell? ⟨w.heap.size, 1, none⟩ = some (.slice Aa wsa.length Ca) := hBXa.cell 1
    have lXa := hBXa.lt
    have fXa0 := hBXa.free 0
    have fXa1 := hBXa.free 1
    have HBXa := Lib.hid hBXa
    have HS1 := Lib.hid hs1
    clear hs1 hBXa
    go_wp2_with (fail)
    refine (HRF.out w1 HS1.out).mono ?_
    rintro e w3 ⟨rfl, hs13⟩
    replace HBXa := Lib.hid (HBXa.out.frm hs13 id)
    replace cXa0 : w3.cell? ⟨w.heap.size, 0, none⟩ = some (.int .i64 Na) := HBXa.out.cell 0
    replace cXa1 : w3.cell? ⟨w.heap.size, 1, none⟩ = some (.slice Aa wsa.length Ca) := HBXa.out.cell 1
    replace lXa := HBXa.out.lt
    replace fXa0 := HBXa.out.free 0
    replace fXa1 := HBXa.out.free 1
    replace HS1 := Lib.hid (HS1.out.trans hs13 (fun _ _ h => h))
    clear hs13
    go_wp2
    go_ret2
    exact ⟨rfl, HS1.out⟩
  | true =>
    rw [hfr] at hrf
    obtain ⟨n, rfl, hform⟩ := frm_true hfr
    rw [if_pos rfl, show fmE true = 0 from rfl, popS_form hform]
    have HRF := Lib.hid hrf
    have HFa := Lib.hid hform
    have hn := hform.n16
    clear hrf hfr hform
    have hMp0 : 0 < 2 ^ n := Nat.pow_pos (by omega)
    have hp16 := pow_le16 hn
    obtain ⟨M, hM⟩ : ∃ M, 2 ^ n = M := ⟨_, rfl⟩
    rw [hM] at hp16 hMp0 ⊢
    have hMp := hMp0
    have HM := Lib.hid hM
    clear hM hMp0
    obtain ⟨pf, hpf⟩ : ∃ p, cntB (vb wsa) M = p := ⟨_, rfl⟩
    rw [hpf]
    have HPF := Lib.hid hpf
    clear hpf
    go_enter Try.func43, Try.ntmps43
    go_upto_region 1 with fail
    refine wp_world fun w1 hw1 => ?_
    have hs1 : Same w w1 := by rw [hw1]; exact (Frm.refl _ _).alloc _
    have hBXa : Blk w1 (w.heap.size) 24 #[.int .i64 n, .slice Aa wsa.length Ca] := by
      rw [hw1]
      have := (Blk.new w 24 #[.int .i64 n, .slice Aa wsa.length Ca])
      simpa using this
    clear hw1
    have cXa0 : w1.cell? ⟨w.heap.size, 0, none⟩ = some (.int .i64 n) := hBXa.cell 0
    have cXa1 : w1.cell? ⟨w.heap.size, 1, none⟩ = some (.slice Aa wsa.length Ca) := hBXa.cell 1
    have lXa := hBXa.lt
    have fXa0 := hBXa.free 0
    have fXa1 := hBXa.free 1
    have HBXa := Lib.hid hBXa
    have HS1 := Lib.hid hs1
    clear hs1 hBXa
    go_wp2_with (fail)
    refine (HRF.out w1 HS1.out).mono ?_
    rintro e w3 ⟨rfl, hs13⟩
    replace HBXa := Lib.hid (HBXa.out.frm hs13 id)
    replace cXa0 : w3.cell? ⟨w.heap.size, 0, none⟩ = some (.int .i64 n) := HBXa.out.cell 0
    replace cXa1 : w3.cell? ⟨w.heap.size, 1, none⟩ = some (.slice Aa wsa.length Ca) := HBXa.out.cell 1
    replace lXa := HBXa.out.lt
    replace fXa0 := HBXa.out.free 0
    replace fXa1 := HBXa.out.free 1
    replace HS1 := Lib.hid (HS1.out.trans hs13 (fun _ _ h => h))
    clear hs13
    go_wp2_with (fail)
    refine (values_any n Ca Aa wsa w3 (Ha.out.same HS1.out) HFa.out).mono ?_
    rintro e w4 ⟨Al, CL, rfl, hNB⟩
    rw [HM.out] at hNB ⊢
    obtain ⟨L, rfl, hLl⟩ := Own.form1 hNB.1 (by rw [vals_len]; exact hMp)
    have hLn : w3.heap.size ≤ L := hNB.2.1 L ⟨_, rfl, rfl⟩
    have hsv := hNB.2.2
    have hOL := hNB.1
    rw [vals_len] at hOL
    have HOL := Lib.hid hOL
    clear hNB hOL
    have HS4 := Lib.hid (HS1.out.trans hsv (fun _ _ h => h))
    clear hsv cXa0 cXa1 fXa0 fXa1 lXa
    go_wp2
    go_loopw [4, 13] (fun s i wr => ∃ k : Nat, k ≤ M ∧ i = .int .i64 k ∧ s = .int .u64 (cntB (vb wsa) k : Nat) ∧ w4 = wr) (fun _ i _ => M - (intOf i).toNat)
    case atStart => exact ⟨0, by omega, rfl, rfl, rfl⟩
    case round =>
      obtain ⟨k, hk, rfl, rfl, rfl⟩ := hrel
      have hcl := cntB_le (vb wsa) k
      by_cases hlt : k < M
      · have hk0 : (0 : Int) ≤ k := by omega
        have hk1 : (k : Int) < M := by omega
        obtain ⟨hLl2, hLc⟩ := OwnB.cell HOL.out hlt
        have hst : cntB (vb wsa) (k + 1) = cntB (vb wsa) k + (if vb wsa k then 1 else 0) := rfl
        have HST := Lib.hid hst
        clear hst
        generalize vb wsa k = v at *
        generalize cntB (vb wsa) k = cc at *
        cases v
        · go_wp2
          go_roundw
          case rel => exact ⟨k + 1, by omega, by go_num, by rw [HST.out]; rfl, trivial⟩
          case measure => simp [intOf]; omega
        · go_wp2
          go_roundw
          case rel => exact ⟨k + 1, by omega, by go_num, by rw [HST.out]; go_num, trivial⟩
          case measure => simp [intOf]; omega
      · obtain rfl : k = M := by omega
        rw [HPF.out]
        go_wp2
        go_ret2
        exact ⟨rfl, HS4.out⟩
end Go.Proofs.Ytlggmoghgoeiiaa
