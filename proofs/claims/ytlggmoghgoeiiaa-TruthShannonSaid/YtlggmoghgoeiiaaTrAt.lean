/- Truth tables: At of the program and of the reference. -/
import Derived.Test.YtlggmoghgoeiiaaTrGood
namespace Go.Proofs.Ytlggmoghgoeiiaa
open Go.RowKit Go.Tk

def atE (fr : Bool) (N : Int) (x : Nat) : Int := if fr then (if x < 2 ^ N.toNat then 0 else 1) else 5
def atB (N : Int) (ws : List Nat) (x : Nat) : Bool := if atE (frm N ws) N x = 0 then vb ws x else false
theorem and1_bit (y r : Nat) (hy : y < 18446744073709551616) : (bits .and .u64 ((y / 2 ^ r : Nat) : Int) 1 == 1) = y.testBit r := by
  have h1 : y / 2 ^ r ≤ y := Nat.div_le_self _ _
  have h3 := u64_and_nat (y / 2 ^ r) 1 (by omega) (by omega)
  rw [nat_mask1] at h3
  rw [show (1 : Int) = ((1 : Nat) : Int) from rfl, h3, testBit_dm]
  generalize y / 2 ^ r % 2 = z
  rw [Bool.eq_iff_iff, beq_iff_eq, decide_eq_true_eq]
  omega
set_option maxRecDepth 100000 in
set_option maxHeartbeats 4000000 in
theorem At_any (Na : Int) (Aa : Option Addr) (Ca : Nat) (wsa : List Nat) (x : Nat) (w : World) (hx : x < 18446744073709551616) (h : TbOk w ⟨Na, Aa, Ca, wsa⟩) : Calls Try.prog 21 #[.agg #[.int .i64 Na, .slice Aa wsa.length Ca], .int .u64 x] w fun e w' => e = .returned (.tuple #[.bool (atB Na wsa x), .int .i64 (atE (frm Na wsa) Na x)]) ∧ Same w w' := by
  have H := Lib.hid h
  unfold atB
  cases hfr : frm Na wsa with
  | false =>
    rw [show atE false Na x = 5 from rfl, if_neg (by decide)]
    have HFM := Lib.hid ((frm_one Na Aa Ca wsa).trans hfr)
    clear hfr h
    go_enter Try.func21, Try.ntmps21
    go_upto_region 1 with fail
    refine wp_world fun w1 hw1 => ?_
    have hs1 : Same w w1 := by rw [hw1]; exact (Frm.refl _ _).alloc _
    have hBXa : Blk w1 (w.heap.size) 24 #[.int .i64 Na, .slice Aa wsa.length Ca] := by
      rw [hw1]
      have := (Blk.new w 24 #[.int .i64 Na, .slice Aa wsa.length Ca])
      simpa using this
    clear hw1
    have cXa0 : w1.cell? ⟨w.heap.size, 0, none⟩ = some (.int .i64 Na) := hBXa.cell 0
    have cXa1 : w1.cell? ⟨w.heap.size, 1, none⟩ = some (.slice Aa wsa.length Ca) := hBXa.cell 1
    have lXa := hBXa.lt
    have fXa0 := hBXa.free 0
    have fXa1 := hBXa.free 1
    have HBXa := Lib.hid hBXa
    have HS1 := Lib.hid hs1
    clear hs1 hBXa
    have HOKa := Lib.hid (H.out.same HS1.out)
    go_wp2_with (fail)
    refine call_world fun w2 hw2 => ?_
    have hs2 : Same w1 w2 := by rw [hw2]; exact (Frm.refl _ _).alloc _
    have hBL : Blk w2 w1.heap.size 24 #[.int .i64 Na, .slice Aa wsa.length Ca] := by rw [hw2]; exact Blk.new _ _ _
    have htbs : Tbs w2 w1.heap.size [⟨Na, Aa, Ca, wsa⟩] := by
      intro i t hi
      match i, hi with
      | 0, hi =>
        simp only [List.getElem?_cons_zero, Option.some.injEq] at hi
        subst hi
        exact ⟨hBL.lt, hBL.cell 0, hBL.cell 1⟩
      | i + 1, hi => simp at hi
    have hfc := form_any w1.heap.size 1 1 [⟨Na, Aa, Ca, wsa⟩] w2 rfl (by decide) htbs (fun t ht => by
      simp only [List.mem_cons, List.not_mem_nil, or_false] at ht
      rcases ht with rfl
      · exact (HOKa.out).same hs2)
    rw [HFM.out] at hfc
    refine hfc.mono ?_
    clear hfc htbs hBL hw2
    rintro e w3 ⟨rfl, hs3⟩
    have hs13 : Same w1 w3 := hs2.trans hs3 (fun _ _ h => h)
    clear hs2 hs3
    replace HBXa := Lib.hid (HBXa.out.frm hs13 id)
    replace cXa0 : w3.cell? ⟨w.heap.size, 0, none⟩ = some (.int .i64 Na) := HBXa.out.cell 0
    replace cXa1 : w3.cell? ⟨w.heap.size, 1, none⟩ = some (.slice Aa wsa.length Ca) := HBXa.out.cell 1
    replace lXa := HBXa.out.lt
    replace fXa0 := HBXa.out.free 0
    replace fXa1 := HBXa.out.free 1
    replace HS1 := Lib.hid (HS1.out.trans hs13 (fun _ _ h => h))
    clear hs13
    go_wp2
    go_ret2
    exact ⟨rfl, HS1.out⟩
  | true =>
    obtain ⟨n, rfl, hform⟩ := frm_true hfr
    have HFM := Lib.hid ((frm_one n Aa Ca wsa).trans hfr)
    have hn := hform.n16
    have hdv : (x : Int) / 2 ^ n = ((x / 2 ^ n : Nat) : Int) := by rw [pow_int]; exact (Int.natCast_ediv _ _).symm
    have hn0 : (0 : Int) ≤ n := by omega
    have hmn : min n 64 = n := by omega
    have hp : 0 < 2 ^ n := Nat.pow_pos (by omega)
    have hle : x / 2 ^ n ≤ x := Nat.div_le_self _ _
    by_cases hlt : x < 2 ^ n
    · rw [show atE true n x = 0 by unfold atE; rw [if_pos rfl, Int.toNat_natCast, if_pos hlt], if_pos rfl]
      have hz : x / 2 ^ n = 0 := Nat.div_eq_of_lt hlt
      obtain ⟨y, hy⟩ : ∃ y, wsa[x / 64]? = some y := ⟨_, List.getElem?_eq_getElem (by rw [hform.len]; exact div_lt_nw hlt)⟩
      have hyl := h.small.at1 hy
      have hlx : x / 64 < wsa.length := lt_get hy
      have hvb : vb wsa x = y.testBit (x % 64) := by unfold vb; rw [List.getD_eq_getElem?_getD, hy]; rfl
      have hb1 := and1_bit y (x % 64) hyl
      rw [← hvb] at hb1
      have hn1 : (x : Int) / 64 = ((x / 64 : Nat) : Int) := by omega
      have hn2 : (x : Int) % 64 = ((x % 64 : Nat) : Int) := by omega
      have hm64 : min (x % 64) 64 = x % 64 := by omega
      have hr64 : x % 64 < 64 := by omega
      have hpw : ((y : Nat) : Int) / 2 ^ (x % 64) = ((y / 2 ^ (x % 64) : Nat) : Int) := by rw [pow_int]; exact (Int.natCast_ediv _ _).symm
      obtain ⟨vv, hvv⟩ : ∃ v, vb wsa x = v := ⟨_, rfl⟩
      rw [hvv] at hb1 ⊢
      have HY := Lib.hid hy
      rw [hz] at hdv
      have hdv2 : (x : Int) / 2 ^ n = 0 := hdv
      have hyq : y / 2 ^ (x % 64) ≤ y := Nat.div_le_self _ _
      clear hfr hform hy hvb hvv hz h hdv hp hle
      generalize x % 64 = r at *
      generalize x / 64 = qq at *
      generalize y / 2 ^ r = z at *
      go_enter Try.func21, Try.ntmps21
      go_upto_region 1 with fail
      refine wp_world fun w1 hw1 => ?_
      have hs1 : Same w w1 := by rw [hw1]; exact (Frm.refl _ _).alloc _
      have hBXa : Blk w1 (w.heap.size) 24 #[.int .i64 n, .slice Aa wsa.length Ca] := by
        rw [hw1]
        have := (Blk.new w 24 #[.int .i64 n, .slice Aa wsa.length Ca])
        simpa using this
      clear hw1
      have cXa0 : w1.cell? ⟨w.heap.size, 0, none⟩ = some (.int .i64 n) := hBXa.cell 0
      have cXa1 : w1.cell? ⟨w.heap.size, 1, none⟩ = some (.slice Aa wsa.length Ca) := hBXa.cell 1
      have lXa := hBXa.lt
      have fXa0 := hBXa.free 0
      have fXa1 := hBXa.free 1
      have HBXa := Lib.hid hBXa
      have HS1 := Lib.hid hs1
      clear hs1 hBXa
      have HOKa := Lib.hid (H.out.same HS1.out)
      go_wp2_with (fail)
      refine call_world fun w2 hw2 => ?_
      have hs2 : Same w1 w2 := by rw [hw2]; exact (Frm.refl _ _).alloc _
      have hBL : Blk w2 w1.heap.size 24 #[.int .i64 n, .slice Aa wsa.length Ca] := by rw [hw2]; exact Blk.new _ _ _
      have htbs : Tbs w2 w1.heap.size [⟨n, Aa, Ca, wsa⟩] := by
        intro i t hi
        match i, hi with
        | 0, hi =>
          simp only [List.getElem?_cons_zero, Option.some.injEq] at hi
          subst hi
          exact ⟨hBL.lt, hBL.cell 0, hBL.cell 1⟩
        | i + 1, hi => simp at hi
      have hfc := form_any w1.heap.size 1 1 [⟨n, Aa, Ca, wsa⟩] w2 rfl (by decide) htbs (fun t ht => by
        simp only [List.mem_cons, List.not_mem_nil, or_false] at ht
        rcases ht with rfl
        · exact (HOKa.out).same hs2)
      rw [HFM.out] at hfc
      refine hfc.mono ?_
      clear hfc htbs hBL hw2
      rintro e w3 ⟨rfl, hs3⟩
      have hs13 : Same w1 w3 := hs2.trans hs3 (fun _ _ h => h)
      clear hs2 hs3
      replace HBXa := Lib.hid (HBXa.out.frm hs13 id)
      replace cXa0 : w3.cell? ⟨w.heap.size, 0, none⟩ = some (.int .i64 n) := HBXa.out.cell 0
      replace cXa1 : w3.cell? ⟨w.heap.size, 1, none⟩ = some (.slice Aa wsa.length Ca) := HBXa.out.cell 1
      replace lXa := HBXa.out.lt
      replace fXa0 := HBXa.out.free 0
      replace fXa1 := HBXa.out.free 1
      replace HS1 := Lib.hid (HS1.out.trans hs13 (fun _ _ h => h))
      clear hs13
      obtain ⟨bq, offq, hA, hbl, hcq⟩ := WL.at1 (Sl.same H.out.wl HS1.out) HY.out
      simp only at hA
      subst hA
      have hqi : (qq : Int) < wsa.length := by omega
      have hq0 : (0 : Int) ≤ qq := by omega
      go_wp2
      go_ret2
      exact ⟨rfl, HS1.out⟩
    · rw [show atE true n x = 1 by unfold atE; rw [if_pos rfl, Int.toNat_natCast, if_neg hlt], if_neg (by decide)]
      have hz : 0 < x / 2 ^ n := Nat.div_pos (by omega) hp
      clear hfr hform h hp
      generalize x / 2 ^ n = z at *
      have hz0 : (z : Int) ≠ 0 := by omega
      go_enter Try.func21, Try.ntmps21
      go_upto_region 1 with fail
      refine wp_world fun w1 hw1 => ?_
      have hs1 : Same w w1 := by rw [hw1]; exact (Frm.refl _ _).alloc _
      have hBXa : Blk w1 (w.heap.size) 24 #[.int .i64 n, .slice Aa wsa.length Ca] := by
        rw [hw1]
        have := (Blk.new w 24 #[.int .i64 n, .slice Aa wsa.length Ca])
        simpa using this
      clear hw1
      have cXa0 : w1.cell? ⟨w.heap.size, 0, none⟩ = some (.int .i64 n) := hBXa.cell 0
      have cXa1 : w1.cell? ⟨w.heap.size, 1, none⟩ = some (.slice Aa wsa.length Ca) := hBXa.cell 1
      have lXa := hBXa.lt
      have fXa0 := hBXa.free 0
      have fXa1 := hBXa.free 1
      have HBXa := Lib.hid hBXa
      have HS1 := Lib.hid hs1
      clear hs1 hBXa
      have HOKa := Lib.hid (H.out.same HS1.out)
      go_wp2_with (fail)
      refine call_world fun w2 hw2 => ?_
      have hs2 : Same w1 w2 := by rw [hw2]; exact (Frm.refl _ _).alloc _
      have hBL : Blk w2 w1.heap.size 24 #[.int .i64 n, .slice Aa wsa.length Ca] := by rw [hw2]; exact Blk.new _ _ _
      have htbs : Tbs w2 w1.heap.size [⟨n, Aa, Ca, wsa⟩] := by
        intro i t hi
        match i, hi with
        | 0, hi =>
          simp only [List.getElem?_cons_zero, Option.some.injEq] at hi
          subst hi
          exact ⟨hBL.lt, hBL.cell 0, hBL.cell 1⟩
        | i + 1, hi => simp at hi
      have hfc := form_any w1.heap.size 1 1 [⟨n, Aa, Ca, wsa⟩] w2 rfl (by decide) htbs (fun t ht => by
        simp only [List.mem_cons, List.not_mem_nil, or_false] at ht
        rcases ht with rfl
        · exact (HOKa.out).same hs2)
      rw [HFM.out] at hfc
      refine hfc.mono ?_
      clear hfc htbs hBL hw2
      rintro e w3 ⟨rfl, hs3⟩
      have hs13 : Same w1 w3 := hs2.trans hs3 (fun _ _ h => h)
      clear hs2 hs3
      replace HBXa := Lib.hid (HBXa.out.frm hs13 id)
      replace cXa0 : w3.cell? ⟨w.heap.size, 0, none⟩ = some (.int .i64 n) := HBXa.out.cell 0
      replace cXa1 : w3.cell? ⟨w.heap.size, 1, none⟩ = some (.slice Aa wsa.length Ca) := HBXa.out.cell 1
      replace lXa := HBXa.out.lt
      replace fXa0 := HBXa.out.free 0
      replace fXa1 := HBXa.out.free 1
      replace HS1 := Lib.hid (HS1.out.trans hs13 (fun _ _ h => h))
      clear hs13
      go_wp2
      go_ret2
      exact ⟨rfl, HS1.out⟩
set_option maxRecDepth 100000 in
set_option maxHeartbeats 4000000 in
theorem docAt_any (Na : Int) (Aa : Option Addr) (Ca : Nat) (wsa : List Nat) (x : Nat) (w : World) (hx : x < 18446744073709551616) (h : TbOk w ⟨Na, Aa, Ca, wsa⟩) : Calls Try.prog 40 #[.agg #[.int .i64 Na, .slice Aa wsa.length Ca], .int .u64 x] w fun e w' => e = .returned (.tuple #[.bool (atB Na wsa x), .int .i64 (atE (frm Na wsa) Na x)]) ∧ Same w w' := by
  have Ha := Lib.hid h
  unfold atB
  have hrf := fun (w' : World) (hs : Same w w') => rForm_any Na Aa _ Ca wsa w' (Sl.same h.wl hs) h.small
  simp only at hrf
  cases hfr : frm Na wsa with
  | false =>
    rw [show atE false Na x = 5 from rfl, if_neg (by decide)]
    rw [hfr] at hrf
    have HRF := Lib.hid hrf
    clear hfr h hrf
    go_enter Try.func40, Try.ntmps40
    go_upto_region 1 with fail
    refine wp_world fun w1 hw1 => ?_
    have hs1 : Same w w1 := by rw [hw1]; exact (Frm.refl _ _).alloc _
    have hBXa : Blk w1 (w.heap.size) 24 #[.int .i64 Na, .slice Aa wsa.length Ca] := by
      rw [hw1]
      have := (Blk.new w 24 #[.int .i64 Na, .slice Aa wsa.length Ca])
      simpa using this
    clear hw1
    have cXa0 : w1.cell? ⟨w.heap.size, 0, none⟩ = some (.int .i64 Na) := hBXa.cell 0
    have cXa1 : w1.cell? ⟨w.heap.size, 1, none⟩ = some (.slice Aa wsa.length Ca) := hBXa.cell 1
    have lXa := hBXa.lt
    have fXa0 := hBXa.free 0
    have fXa1 := hBXa.free 1
    have HBXa := Lib.hid hBXa
    have HS1 := Lib.hid hs1
    clear hs1 hBXa
    go_wp2_with (fail)
    refine (HRF.out w1 HS1.out).mono ?_
    rintro e w3 ⟨rfl, hs13⟩
    replace HBXa := Lib.hid (HBXa.out.frm hs13 id)
    replace cXa0 : w3.cell? ⟨w.heap.size, 0, none⟩ = some (.int .i64 Na) := HBXa.out.cell 0
    replace cXa1 : w3.cell? ⟨w.heap.size, 1, none⟩ = some (.slice Aa wsa.length Ca) := HBXa.out.cell 1
    replace lXa := HBXa.out.lt
    replace fXa0 := HBXa.out.free 0
    replace fXa1 := HBXa.out.free 1
    replace HS1 := Lib.hid (HS1.out.trans hs13 (fun _ _ h => h))
    clear hs13
    go_wp2
    go_ret2
    exact ⟨rfl, HS1.out⟩
  | true =>
    rw [hfr] at hrf
    obtain ⟨n, rfl, hform⟩ := frm_true hfr
    have HRF := Lib.hid hrf
    have HFa := Lib.hid hform
    have hn := hform.n16
    clear hrf
    have hMp0 : 0 < 2 ^ n := Nat.pow_pos (by omega)
    have hp16 := pow_le16 hn
    by_cases hlt : x < 2 ^ n
    · rw [show atE true n x = 0 by unfold atE; rw [if_pos rfl, Int.toNat_natCast, if_pos hlt], if_pos rfl]
      obtain ⟨M, hM⟩ : ∃ M, 2 ^ n = M := ⟨_, rfl⟩
      rw [hM] at hlt hp16 hMp0
      have hMp := hMp0
      have HM := Lib.hid hM
      obtain ⟨vv, hvv⟩ : ∃ v, vb wsa x = v := ⟨_, rfl⟩
      rw [hvv]
      have HVV := Lib.hid hvv
      clear hM hfr hform h hMp0 hvv
      go_enter Try.func40, Try.ntmps40
      go_upto_region 1 with fail
      refine wp_world fun w1 hw1 => ?_
      have hs1 : Same w w1 := by rw [hw1]; exact (Frm.refl _ _).alloc _
      have hBXa : Blk w1 (w.heap.size) 24 #[.int .i64 n, .slice Aa wsa.length Ca] := by
        rw [hw1]
        have := (Blk.new w 24 #[.int .i64 n, .slice Aa wsa.length Ca])
        simpa using this
      clear hw1
      have cXa0 : w1.cell? ⟨w.heap.size, 0, none⟩ = some (.int .i64 n) := hBXa.cell 0
      have cXa1 : w1.cell? ⟨w.heap.size, 1, none⟩ = some (.slice Aa wsa.length Ca) := hBXa.cell 1
      have lXa := hBXa.lt
      have fXa0 := hBXa.free 0
      have fXa1 := hBXa.free 1
      have HBXa := Lib.hid hBXa
      have HS1 := Lib.hid hs1
      clear hs1 hBXa
      go_wp2_with (fail)
      refine (HRF.out w1 HS1.out).mono ?_
      rintro e w3 ⟨rfl, hs13⟩
      replace HBXa := Lib.hid (HBXa.out.frm hs13 id)
      replace cXa0 : w3.cell? ⟨w.heap.size, 0, none⟩ = some (.int .i64 n) := HBXa.out.cell 0
      replace cXa1 : w3.cell? ⟨w.heap.size, 1, none⟩ = some (.slice Aa wsa.length Ca) := HBXa.out.cell 1
      replace lXa := HBXa.out.lt
      replace fXa0 := HBXa.out.free 0
      replace fXa1 := HBXa.out.free 1
      replace HS1 := Lib.hid (HS1.out.trans hs13 (fun _ _ h => h))
      clear hs13
      go_wp2_with (fail)
      refine (values_any n Ca Aa wsa w3 (Ha.out.same HS1.out) HFa.out).mono ?_
      rintro e w4 ⟨Al, CL, rfl, hNB⟩
      rw [HM.out] at hNB ⊢
      obtain ⟨L, rfl, hLl⟩ := Own.form1 hNB.1 (by rw [vals_len]; exact hMp)
      have hLn : w3.heap.size ≤ L := hNB.2.1 L ⟨_, rfl, rfl⟩
      have hsv := hNB.2.2
      have hOL := hNB.1
      rw [vals_len] at hOL
      have HOL := Lib.hid hOL
      clear hNB hOL
      obtain ⟨hLl2, hLc⟩ := OwnB.cell HOL.out hlt
      have hxi : (x : Int) < M := by omega
      have hx0 : (0 : Int) ≤ x := by omega
      have hMu : IntKind.u64.wrap (M : Int) = M := IntWalk.u64_in _ (by omega)
      have HS4 := Lib.hid (HS1.out.trans hsv (fun _ _ h => h))
      rw [HVV.out] at hLc
      clear hsv
      go_wp2
      go_ret2
      exact ⟨rfl, HS4.out⟩
    · rw [show atE true n x = 1 by unfold atE; rw [if_pos rfl, Int.toNat_natCast, if_neg hlt], if_neg (by decide)]
      obtain ⟨M, hM⟩ : ∃ M, 2 ^ n = M := ⟨_, rfl⟩
      rw [hM] at hlt hp16 hMp0
      have hMp := hMp0
      have HM := Lib.hid hM
      clear hM hfr hform h hMp0
      go_enter Try.func40, Try.ntmps40
      go_upto_region 1 with fail
      refine wp_world fun w1 hw1 => ?_
      have hs1 : Same w w1 := by rw [hw1]; exact (Frm.refl _ _).alloc _
      have hBXa : Blk w1 (w.heap.size) 24 #[.int .i64 n, .slice Aa wsa.length Ca] := by
        rw [hw1]
        have := (Blk.new w 24 #[.int .i64 n, .slice Aa wsa.length Ca])
        simpa using this
      clear hw1
      have cXa0 : w1.cell? ⟨w.heap.size, 0, none⟩ = some (.int .i64 n) := hBXa.cell 0
      have cXa1 : w1.cell? ⟨w.heap.size, 1, none⟩ = some (.slice Aa wsa.length Ca) := hBXa.cell 1
      have lXa := hBXa.lt
      have fXa0 := hBXa.free 0
      have fXa1 := hBXa.free 1
      have HBXa := Lib.hid hBXa
      have HS1 := Lib.hid hs1
      clear hs1 hBXa
      go_wp2_with (fail)
      refine (HRF.out w1 HS1.out).mono ?_
      rintro e w3 ⟨rfl, hs13⟩
      replace HBXa := Lib.hid (HBXa.out.frm hs13 id)
      replace cXa0 : w3.cell? ⟨w.heap.size, 0, none⟩ = some (.int .i64 n) := HBXa.out.cell 0
      replace cXa1 : w3.cell? ⟨w.heap.size, 1, none⟩ = some (.slice Aa wsa.length Ca) := HBXa.out.cell 1
      replace lXa := HBXa.out.lt
      replace fXa0 := HBXa.out.free 0
      replace fXa1 := HBXa.out.free 1
      replace HS1 := Lib.hid (HS1.out.trans hs13 (fun _ _ h => h))
      clear hs13
      go_wp2_with (fail)
      refine (values_any n Ca Aa wsa w3 (Ha.out.same HS1.out) HFa.out).mono ?_
      rintro e w4 ⟨Al, CL, rfl, hNB⟩
      rw [HM.out] at hNB ⊢
      obtain ⟨L, rfl, hLl⟩ := Own.form1 hNB.1 (by rw [vals_len]; exact hMp)
      have hLn : w3.heap.size ≤ L := hNB.2.1 L ⟨_, rfl, rfl⟩
      have hsv := hNB.2.2
      have hOL := hNB.1
      rw [vals_len] at hOL
      have HOL := Lib.hid hOL
      clear hNB hOL
      have hxi : ¬ (x : Int) < M := by omega
      have hMu : IntKind.u64.wrap (M : Int) = M := IntWalk.u64_in _ (by omega)
      have HS4 := Lib.hid (HS1.out.trans hsv (fun _ _ h => h))
      clear hsv
      go_wp2
      go_ret2
      exact ⟨rfl, HS4.out⟩
end Go.Proofs.Ytlggmoghgoeiiaa
