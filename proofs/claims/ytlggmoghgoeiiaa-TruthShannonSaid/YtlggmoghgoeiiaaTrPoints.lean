/- Truth tables: TruthPoints: the walk. -/
import Derived.Test.YtlggmoghgoeiiaaTrAt
namespace Go.Proofs.Ytlggmoghgoeiiaa
open Go.RowKit Go.Tk

theorem popS_cnt {ws : List Nat} : ∀ k, k ≤ ws.length → popS ws k = cntB (vb ws) (64 * k)
  | 0, _ => rfl
  | k + 1, h => by
    obtain ⟨x, hx⟩ : ∃ x, ws[k]? = some x := ⟨_, List.getElem?_eq_getElem (by omega)⟩
    rw [popS_succ hx, popS_cnt k (by omega), show 64 * (k + 1) = 64 * k + 64 by omega, cntB_add]
    unfold popc
    congr 1
    exact cntB_congr fun j hj => (vb_word hx hj).symm
theorem popS_form {n : Nat} {ws : List Nat} (h : FormN n ws) : popS ws ws.length = cntB (vb ws) (2 ^ n) := by
  rw [popS_cnt _ (Nat.le_refl _), h.len]
  by_cases h6 : 6 ≤ n
  · rw [Nat.mul_comm, nw_mul h6]
  · have hp := Nat.pow_le_pow_right (show 0 < 2 by omega) (show n ≤ 5 by omega)
    rw [nw_small (by omega), show 64 * 1 = 2 ^ n + (64 - 2 ^ n) by omega, cntB_add]
    have : cntB (fun j => vb ws (2 ^ n + j)) (64 - 2 ^ n) = 0 := cntB_false fun j hj => by
      unfold vb
      have hlt : 2 ^ n + j < 64 := by omega
      rw [Nat.div_eq_of_lt hlt, Nat.mod_eq_of_lt hlt]
      exact Nat.testBit_lt_two_pow (Nat.lt_of_lt_of_le (h.top (by omega)) (Nat.pow_le_pow_right (by omega) (by omega)))
    omega
set_option maxRecDepth 100000 in
set_option maxHeartbeats 8000000 in
theorem points_walk (Na : Int) (Aa : Option Addr) (Ca : Nat) (wsa : List Nat) (w : World) (h : TbIn w ⟨Na, Aa, Ca, wsa⟩) : Calls Try.prog 4 #[.agg #[.int .i64 Na, .slice Aa wsa.length Ca]] w fun e w' => e = .returned (.bool true) ∧ Below w.heap.size w w' := by
  have H := Lib.hid h
  clear h
  cases hfr : frm Na wsa with
  | false =>
    have HFM := Lib.hid ((frm_one Na Aa Ca wsa).trans hfr)
    clear hfr
    go_enter Try.func4, Try.ntmps4
    go_upto_region 1 with fail
    refine wp_world fun w1 hw1 => ?_
    have hs1 : Same w w1 := by rw [hw1]; exact (Frm.refl _ _).alloc _
    have hBXa : Blk w1 (w.heap.size) 24 #[.int .i64 Na, .slice Aa wsa.length Ca] := by
      rw [hw1]
      have := (Blk.new w 24 #[.int .i64 Na, .slice Aa wsa.length Ca])
      simpa using this
    clear hw1
    have cXa0 : w1.cell? ⟨w.heap.size, 0, none⟩ = some (.int .i64 Na) := hBXa.cell 0
    have cXa1 : w1.cell? ⟨w.heap.size, 1, none⟩ = some (.slice Aa wsa.length Ca) := hBXa.cell 1
    have lXa := hBXa.lt
    have fXa0 := hBXa.free 0
    have fXa1 := hBXa.free 1
    have HBXa := Lib.hid hBXa
    have HS1 := Lib.hid hs1
    clear hs1 hBXa
    go_wp2_with (fail)
    refine (awake_any w1).mono ?_
    rintro e w2a ⟨rfl, hs13⟩
    replace HBXa := Lib.hid (HBXa.out.frm hs13 id)
    replace cXa0 : w2a.cell? ⟨w.heap.size, 0, none⟩ = some (.int .i64 Na) := HBXa.out.cell 0
    replace cXa1 : w2a.cell? ⟨w.heap.size, 1, none⟩ = some (.slice Aa wsa.length Ca) := HBXa.out.cell 1
    replace lXa := HBXa.out.lt
    replace fXa0 := HBXa.out.free 0
    replace fXa1 := HBXa.out.free 1
    replace HS1 := Lib.hid (HS1.out.trans hs13 (fun _ _ h => h))
    clear hs13
    have HOKa := Lib.hid (H.out.ok.same HS1.out)
    go_wp2_with (fail)
    refine call_world fun w2 hw2 => ?_
    have hs2 : Same w2a w2 := by rw [hw2]; exact (Frm.refl _ _).alloc _
    have hBL : Blk w2 w2a.heap.size 24 #[.int .i64 Na, .slice Aa wsa.length Ca] := by rw [hw2]; exact Blk.new _ _ _
    have htbs : Tbs w2 w2a.heap.size [⟨Na, Aa, Ca, wsa⟩] := by
      intro i t hi
      match i, hi with
      | 0, hi =>
        simp only [List.getElem?_cons_zero, Option.some.injEq] at hi
        subst hi
        exact ⟨hBL.lt, hBL.cell 0, hBL.cell 1⟩
      | i + 1, hi => simp at hi
    have hfc := good_any w2a.heap.size 1 1 [⟨Na, Aa, Ca, wsa⟩] w2 rfl (by decide) htbs (fun t ht => by
      simp only [List.mem_cons, List.not_mem_nil, or_false] at ht
      rcases ht with rfl
      · exact (HOKa.out).same hs2)
    rw [HFM.out] at hfc
    refine hfc.mono ?_
    clear hfc htbs hBL hw2
    rintro e w3 ⟨rfl, hs3⟩
    have hs23 : Same w2a w3 := hs2.trans hs3 (fun _ _ h => h)
    clear hs2 hs3
    replace HBXa := Lib.hid (HBXa.out.frm hs23 id)
    replace cXa0 : w3.cell? ⟨w.heap.size, 0, none⟩ = some (.int .i64 Na) := HBXa.out.cell 0
    replace cXa1 : w3.cell? ⟨w.heap.size, 1, none⟩ = some (.slice Aa wsa.length Ca) := HBXa.out.cell 1
    replace lXa := HBXa.out.lt
    replace fXa0 := HBXa.out.free 0
    replace fXa1 := HBXa.out.free 1
    replace HS1 := Lib.hid (HS1.out.trans hs23 (fun _ _ h => h))
    clear hs23
    go_wp2
    go_ret
    exact ⟨rfl, HS1.out.to_below (Nat.le_refl _) (fun _ _ => id)⟩
  | true =>
    obtain ⟨n, rfl, hform⟩ := frm_true hfr
    have HFM := Lib.hid ((frm_one n Aa Ca wsa).trans hfr)
    by_cases h12 : (12 : Int) < n
    · clear hfr hform
      go_enter Try.func4, Try.ntmps4
      go_upto_region 1 with fail
      refine wp_world fun w1 hw1 => ?_
      have hs1 : Same w w1 := by rw [hw1]; exact (Frm.refl _ _).alloc _
      have hBXa : Blk w1 (w.heap.size) 24 #[.int .i64 n, .slice Aa wsa.length Ca] := by
        rw [hw1]
        have := (Blk.new w 24 #[.int .i64 n, .slice Aa wsa.length Ca])
        simpa using this
      clear hw1
      have cXa0 : w1.cell? ⟨w.heap.size, 0, none⟩ = some (.int .i64 n) := hBXa.cell 0
      have cXa1 : w1.cell? ⟨w.heap.size, 1, none⟩ = some (.slice Aa wsa.length Ca) := hBXa.cell 1
      have lXa := hBXa.lt
      have fXa0 := hBXa.free 0
      have fXa1 := hBXa.free 1
      have HBXa := Lib.hid hBXa
      have HS1 := Lib.hid hs1
      clear hs1 hBXa
      go_wp2_with (fail)
      refine (awake_any w1).mono ?_
      rintro e w2a ⟨rfl, hs13⟩
      replace HBXa := Lib.hid (HBXa.out.frm hs13 id)
      replace cXa0 : w2a.cell? ⟨w.heap.size, 0, none⟩ = some (.int .i64 n) := HBXa.out.cell 0
      replace cXa1 : w2a.cell? ⟨w.heap.size, 1, none⟩ = some (.slice Aa wsa.length Ca) := HBXa.out.cell 1
      replace lXa := HBXa.out.lt
      replace fXa0 := HBXa.out.free 0
      replace fXa1 := HBXa.out.free 1
      replace HS1 := Lib.hid (HS1.out.trans hs13 (fun _ _ h => h))
      clear hs13
      have HOKa := Lib.hid (H.out.ok.same HS1.out)
      go_wp2_with (fail)
      refine call_world fun w2 hw2 => ?_
      have hs2 : Same w2a w2 := by rw [hw2]; exact (Frm.refl _ _).alloc _
      have hBL : Blk w2 w2a.heap.size 24 #[.int .i64 n, .slice Aa wsa.length Ca] := by rw [hw2]; exact Blk.new _ _ _
      have htbs : Tbs w2 w2a.heap.size [⟨n, Aa, Ca, wsa⟩] := by
        intro i t hi
        match i, hi with
        | 0, hi =>
          simp only [List.getElem?_cons_zero, Option.some.injEq] at hi
          subst hi
          exact ⟨hBL.lt, hBL.cell 0, hBL.cell 1⟩
        | i + 1, hi => simp at hi
      have hfc := good_any w2a.heap.size 1 1 [⟨n, Aa, Ca, wsa⟩] w2 rfl (by decide) htbs (fun t ht => by
        simp only [List.mem_cons, List.not_mem_nil, or_false] at ht
        rcases ht with rfl
        · exact (HOKa.out).same hs2)
      rw [HFM.out] at hfc
      refine hfc.mono ?_
      clear hfc htbs hBL hw2
      rintro e w3 ⟨rfl, hs3⟩
      have hs23 : Same w2a w3 := hs2.trans hs3 (fun _ _ h => h)
      clear hs2 hs3
      replace HBXa := Lib.hid (HBXa.out.frm hs23 id)
      replace cXa0 : w3.cell? ⟨w.heap.size, 0, none⟩ = some (.int .i64 n) := HBXa.out.cell 0
      replace cXa1 : w3.cell? ⟨w.heap.size, 1, none⟩ = some (.slice Aa wsa.length Ca) := HBXa.out.cell 1
      replace lXa := HBXa.out.lt
      replace fXa0 := HBXa.out.free 0
      replace fXa1 := HBXa.out.free 1
      replace HS1 := Lib.hid (HS1.out.trans hs23 (fun _ _ h => h))
      clear hs23
      go_wp2
      go_ret
      exact ⟨rfl, HS1.out.to_below (Nat.le_refl _) (fun _ _ => id)⟩
    · have h13 : ¬ (n : Int) > 12 := by omega
      have hn : n ≤ 12 := by omega
      have hp12 : 2 ^ n ≤ 2 ^ 12 := Nat.pow_le_pow_right (by omega) hn
      have hMp0 : 0 < 2 ^ n := Nat.pow_pos (by omega)
      have hat : ∀ (x : Nat) (w : World), x < 2 ^ n → TbOk w ⟨n, Aa, Ca, wsa⟩ → Calls Try.prog 21 #[.agg #[.int .i64 n, .slice Aa wsa.length Ca], .int .u64 x] w fun e w' => e = .returned (.tuple #[.bool (vb wsa x), .int .i64 0]) ∧ Same w w' := fun x w hx h => by
        have := At_any n Aa Ca wsa x w (by omega) h
        rw [show atE (frm n wsa) n x = 0 by rw [hfr]; unfold atE; rw [if_pos rfl, Int.toNat_natCast, if_pos hx], show atB n wsa x = vb wsa x by unfold atB; rw [hfr, show atE true n x = 0 by unfold atE; rw [if_pos rfl, Int.toNat_natCast, if_pos hx], if_pos rfl]] at this
        exact this
      have hat2 : ∀ (w : World), TbOk w ⟨n, Aa, Ca, wsa⟩ → Calls Try.prog 21 #[.agg #[.int .i64 n, .slice Aa wsa.length Ca], .int .u64 ((2 ^ n : Nat) : Int)] w fun e w' => e = .returned (.tuple #[.bool false, .int .i64 1]) ∧ Same w w' := fun w h => by
        have := At_any n Aa Ca wsa (2 ^ n) w (by omega) h
        rw [show atE (frm n wsa) n (2 ^ n) = 1 by rw [hfr]; unfold atE; rw [if_pos rfl, Int.toNat_natCast, if_neg (by omega)], show atB n wsa (2 ^ n) = false by unfold atB; rw [hfr, show atE true n (2 ^ n) = 1 by unfold atE; rw [if_pos rfl, Int.toNat_natCast, if_neg (by omega)], if_neg (by decide)]] at this
        exact this
      have hcn := fun (w : World) (h : TbOk w ⟨n, Aa, Ca, wsa⟩) => Count_any n Aa Ca wsa w h
      rw [hfr, if_pos rfl, popS_form hform, show fmE true = 0 from rfl] at hcn
      have hdl : ∀ i, i < 2 ^ n → ∃ x, wsa[i / 64]? = some x := fun i hi => ⟨_, List.getElem?_eq_getElem (by rw [hform.len]; exact div_lt_nw hi)⟩
      have hsw : IntKind.u64.wrap ((2 : Int) ^ n) = ((2 ^ n : Nat) : Int) := by
        rw [pow_int]
        generalize 2 ^ n = p at hp12
        exact IntWalk.u64_in _ (by omega)
      have hn0 : (0 : Int) ≤ n := by omega
      have hmn : min n 64 = n := by omega
      obtain ⟨M, hM⟩ : ∃ M, 2 ^ n = M := ⟨_, rfl⟩
      rw [hM] at hp12 hMp0 hat hat2 hcn hdl hsw
      have HAT := Lib.hid hat
      have HAT2 := Lib.hid hat2
      have HCN := Lib.hid hcn
      have HDL := Lib.hid hdl
      clear hfr hform hM hat hat2 hcn hdl hn
      go_enter Try.func4, Try.ntmps4
      go_upto_region 1 with fail
      refine wp_world fun w1 hw1 => ?_
      have hs1 : Same w w1 := by rw [hw1]; exact (Frm.refl _ _).alloc _
      have hBXa : Blk w1 (w.heap.size) 24 #[.int .i64 n, .slice Aa wsa.length Ca] := by
        rw [hw1]
        have := (Blk.new w 24 #[.int .i64 n, .slice Aa wsa.length Ca])
        simpa using this
      clear hw1
      have cXa0 : w1.cell? ⟨w.heap.size, 0, none⟩ = some (.int .i64 n) := hBXa.cell 0
      have cXa1 : w1.cell? ⟨w.heap.size, 1, none⟩ = some (.slice Aa wsa.length Ca) := hBXa.cell 1
      have lXa := hBXa.lt
      have fXa0 := hBXa.free 0
      have fXa1 := hBXa.free 1
      have HBXa := Lib.hid hBXa
      have HS1 := Lib.hid hs1
      clear hs1 hBXa
      go_wp2_with (fail)
      refine (awake_any w1).mono ?_
      rintro e w2a ⟨rfl, hs13⟩
      replace HBXa := Lib.hid (HBXa.out.frm hs13 id)
      replace cXa0 : w2a.cell? ⟨w.heap.size, 0, none⟩ = some (.int .i64 n) := HBXa.out.cell 0
      replace cXa1 : w2a.cell? ⟨w.heap.size, 1, none⟩ = some (.slice Aa wsa.length Ca) := HBXa.out.cell 1
      replace lXa := HBXa.out.lt
      replace fXa0 := HBXa.out.free 0
      replace fXa1 := HBXa.out.free 1
      replace HS1 := Lib.hid (HS1.out.trans hs13 (fun _ _ h => h))
      clear hs13
      have HOKa := Lib.hid (H.out.ok.same HS1.out)
      go_wp2_with (fail)
      refine call_world fun w2 hw2 => ?_
      have hs2 : Same w2a w2 := by rw [hw2]; exact (Frm.refl _ _).alloc _
      have hBL : Blk w2 w2a.heap.size 24 #[.int .i64 n, .slice Aa wsa.length Ca] := by rw [hw2]; exact Blk.new _ _ _
      have htbs : Tbs w2 w2a.heap.size [⟨n, Aa, Ca, wsa⟩] := by
        intro i t hi
        match i, hi with
        | 0, hi =>
          simp only [List.getElem?_cons_zero, Option.some.injEq] at hi
          subst hi
          exact ⟨hBL.lt, hBL.cell 0, hBL.cell 1⟩
        | i + 1, hi => simp at hi
      have hfc := good_any w2a.heap.size 1 1 [⟨n, Aa, Ca, wsa⟩] w2 rfl (by decide) htbs (fun t ht => by
        simp only [List.mem_cons, List.not_mem_nil, or_false] at ht
        rcases ht with rfl
        · exact (HOKa.out).same hs2)
      rw [HFM.out] at hfc
      refine hfc.mono ?_
      clear hfc htbs hBL hw2
      rintro e w3 ⟨rfl, hs3⟩
      have hs23 : Same w2a w3 := hs2.trans hs3 (fun _ _ h => h)
      clear hs2 hs3
      replace HBXa := Lib.hid (HBXa.out.frm hs23 id)
      replace cXa0 : w3.cell? ⟨w.heap.size, 0, none⟩ = some (.int .i64 n) := HBXa.out.cell 0
      replace cXa1 : w3.cell? ⟨w.heap.size, 1, none⟩ = some (.slice Aa wsa.length Ca) := HBXa.out.cell 1
      replace lXa := HBXa.out.lt
      replace fXa0 := HBXa.out.free 0
      replace fXa1 := HBXa.out.free 1
      replace HS1 := Lib.hid (HS1.out.trans hs23 (fun _ _ h => h))
      clear hs23
      go_wp2
      go_loopw [3, 4] (fun c x wr => ∃ k : Nat, k ≤ M ∧ x = .int .u64 k ∧ c = .int .u64 (cntB (vb wsa) k : Nat) ∧ Same w3 wr) (fun _ x _ => M - (intOf x).toNat)
      case atStart => exact ⟨0, by omega, rfl, rfl, Frm.refl _ _⟩
      case round =>
        obtain ⟨k, hk, rfl, rfl, hs⟩ := hrel
        have hcl := cntB_le (vb wsa) k
        have HBr := Lib.hid (HBXa.out.frm hs id)
        have HSr := Lib.hid (HS1.out.trans hs (fun _ _ h => h))
        have HS0 := Lib.hid hs
        have dX0 : wr.cell? ⟨w.heap.size, 0, none⟩ = some (.int .i64 n) := HBr.out.cell 0
        have dX1 : wr.cell? ⟨w.heap.size, 1, none⟩ = some (.slice Aa wsa.length Ca) := HBr.out.cell 1
        have dXl := HBr.out.lt
        clear cXa0 cXa1 fXa0 fXa1 lXa HBXa HS1 hs
        by_cases hlt : k < M
        · have hk1 : (k : Int) < M := by omega
          obtain ⟨y, hy⟩ := HDL.out k hlt
          have hyl := H.out.ok.small.at1 hy
          have hlx : k / 64 < wsa.length := lt_get hy
          have hvb : vb wsa k = y.testBit (k % 64) := by unfold vb; rw [List.getD_eq_getElem?_getD, hy]; rfl
          obtain ⟨bq, offq, hA, hbl, hcq⟩ := WL.at1 (Sl.same H.out.ok.wl HSr.out) hy
          simp only at hA
          subst hA
          have hb1 := and1_bit y (k % 64) hyl
          rw [← hvb] at hb1
          have hn1 : (k : Int) / 64 = ((k / 64 : Nat) : Int) := by omega
          have hn2 : (k : Int) % 64 = ((k % 64 : Nat) : Int) := by omega
          have hm64 : min (k % 64) 64 = k % 64 := by omega
          have hr64 : k % 64 < 64 := by omega
          have hpw : ((y : Nat) : Int) / 2 ^ (k % 64) = ((y / 2 ^ (k % 64) : Nat) : Int) := by rw [pow_int]; exact (Int.natCast_ediv _ _).symm
          have hst : cntB (vb wsa) (k + 1) = cntB (vb wsa) k + (if vb wsa k then 1 else 0) := rfl
          have hac := HAT.out k wr hlt (H.out.ok.same HSr.out)
          have hqi : ((k / 64 : Nat) : Int) < wsa.length := by omega
          have hq0 : (0 : Int) ≤ ((k / 64 : Nat) : Int) := by omega
          have hyq : y / 2 ^ (k % 64) ≤ y := Nat.div_le_self _ _
          have HST := Lib.hid hst
          clear hy hvb hst
          generalize vb wsa k = v at *
          generalize k % 64 = r at *
          generalize k / 64 = qq at *
          generalize y / 2 ^ r = z at *
          generalize cntB (vb wsa) k = cc at *
          have HAC := Lib.hid hac
          clear hac
          go_wp2_with (fail)
          refine HAC.out.mono ?_
          rintro e w5 ⟨rfl, hs⟩
          have HBr5 := Lib.hid (HBr.out.frm hs id)
          have eX1 : w5.cell? ⟨w.heap.size, 1, none⟩ = some (.slice (some ⟨bq, offq, none⟩) wsa.length Ca) := HBr5.out.cell 1
          have eXl := HBr5.out.lt
          have ecq := (hs.cell (p := ⟨bq, offq + qq, none⟩) hbl id).trans hcq
          have ebl := Nat.lt_of_lt_of_le hbl hs.size
          have HSw := Lib.hid (HS0.out.trans hs (fun _ _ h => h))
          clear hs dX0 dX1 dXl hcq hbl
          cases v
          · go_wp2
            go_roundw
            case rel => exact ⟨k + 1, by omega, by go_num, by rw [HST.out]; rfl, HSw.out⟩
            case measure => simp [intOf]; omega
          · go_wp2
            go_roundw
            case rel => exact ⟨k + 1, by omega, by go_num, by rw [HST.out]; go_num, HSw.out⟩
            case measure => simp [intOf]; omega
        · obtain rfl : k = M := by omega
          go_wp2_with (fail)
          refine (HCN.out wr (H.out.ok.same HSr.out)).mono ?_
          rintro e w5 ⟨rfl, hs⟩
          have HBr5 := Lib.hid (HBr.out.frm hs id)
          have eX0 : w5.cell? ⟨w.heap.size, 0, none⟩ = some (.int .i64 n) := HBr5.out.cell 0
          have eX1 : w5.cell? ⟨w.heap.size, 1, none⟩ = some (.slice Aa wsa.length Ca) := HBr5.out.cell 1
          have eXl := HBr5.out.lt
          have HSw := Lib.hid ((HSr.out).trans hs (fun _ _ h => h))
          clear hs dX0 dX1 dXl
          go_upto_region 15 with fail
          refine wp_quiet (by kernel_rfl) (by kernel_rfl) ?_
          repeat (any_goals (first | go_big_quiet_step ((go_at_call 21; exact quiet_call (HAT2.out _ (H.out.ok.same (HSw.out.trans (more_same _ _) (fun _ _ h => h)))))) | quiet_step ((go_at_call 21; exact quiet_call (HAT2.out _ (H.out.ok.same (HSw.out.trans (more_same _ _) (fun _ _ h => h))))))))
          refine wpQuiet_nil ?_
          rintro wz ⟨q, hq⟩
          have hsz : Same w5 wz := by rw [hq]; exact more_same _ q
          clear hq
          go_wp2
          go_ret
          exact ⟨rfl, (HSw.out.trans hsz (fun _ _ h => h)).to_below (Nat.le_refl _) (fun _ _ => id)⟩
end Go.Proofs.Ytlggmoghgoeiiaa
