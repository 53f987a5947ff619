/- Truth tables: half of the program; the error of a table and a variable. -/
import Derived.Test.YtlggmoghgoeiiaaTrHalf
namespace Go.Proofs.Ytlggmoghgoeiiaa
open Go.RowKit Go.Tk

/-- the cofactor's values -/
def hfF (v : Nat) (b : Bool) (ws : List Nat) : Nat → Bool := fun i => vb ws (wth i v b)
theorem Small.getD {ws : List Nat} (h : Small ws) (i : Nat) : ws.getD i 0 < 18446744073709551616 := by
  rw [List.getD_eq_getElem?_getD]
  cases hx : ws[i]? with
  | none => simp
  | some x => exact h.at1 hx
theorem halfW_lt {v x : Nat} {b : Bool} (hx : x < 18446744073709551616) : halfW v b x < 18446744073709551616 := by
  unfold halfW
  have h1 : x &&& bsum (fun j => j.testBit v) 64 < 2 ^ 64 := Nat.lt_of_le_of_lt Nat.and_le_left hx
  have h2 : x &&& (18446744073709551615 - bsum (fun j => j.testBit v) 64) < 2 ^ 64 := Nat.lt_of_le_of_lt Nat.and_le_left hx
  split
  · exact Nat.or_lt_two_pow (n := 64) h1 (Nat.lt_of_le_of_lt (Nat.div_le_self _ _) h1)
  · exact Nat.or_lt_two_pow (n := 64) h2 (Nat.mod_lt _ (by decide))
theorem halfN_lt {v i : Nat} {b : Bool} {ws : List Nat} (h : Small ws) : halfN v b ws i < 18446744073709551616 := by
  unfold halfN
  split
  · exact h.getD _
  · exact halfW_lt (h.getD _)
theorem halfN_bit {n v k j : Nat} {b : Bool} {ws : List Nat} (hf : FormN n ws) (hk : k < nw n) (hv : v < n) (hj : j < 64) : (halfN v b ws k).testBit j = hfF v b ws (64 * k + j) := by
  unfold halfN hfF
  by_cases h6 : 6 ≤ v
  · rw [if_pos h6, wth_high b hj h6]
    have h0 : nw n = 2 ^ (n - 6) := by unfold nw; rw [if_neg (by omega)]
    have hil : wth k (v - 6) b < ws.length := by
      rw [hf.len, h0]
      rw [h0] at hk
      exact wth_lt hk (by omega)
    rw [getD_of (List.getElem?_eq_getElem hil), vb_word (List.getElem?_eq_getElem hil) hj]
  · have hkl : k < ws.length := by rw [hf.len]; exact hk
    rw [if_neg h6, wth_low b hj (by omega), getD_of (List.getElem?_eq_getElem hkl), halfW_bit b (by omega) hj, vb_word (List.getElem?_eq_getElem hkl) (wth_lt (n := 6) hj (by omega))]
set_option maxHeartbeats 4000000 in
theorem half_any (n v : Nat) (b : Bool) (Aa : Option Addr) (Ca : Nat) (wsa : List Nat) (w : World) (h : TbOk w ⟨n, Aa, Ca, wsa⟩) (hf : FormN n wsa) (hv : v < n) :
    Calls Try.prog 52 #[.agg #[.int .i64 n, .slice Aa wsa.length Ca], .int .i64 v, .bool b] w (RetT w n (tab n (hfF v b wsa))) := by
  have hmf : ∀ (fn : Fn) (first cap : Array Value) (w : World), (Instr.makeFunc fn first cap).run Try.prog w = .ok (.func fn first cap) w := fun _ _ _ _ => rfl
  have H := Lib.hid h
  have hn := hf.n16
  have HTB := Lib.hid (laid_tab (n := n) (g := halfN v b wsa) (F := hfF v b wsa) fun k hk j hj _ => halfN_bit hf hk hv hj)
  have HF := Lib.hid hf
  have HV := Lib.hid hv
  have HSM := Lib.hid h.small
  clear h hf hv
  have hen : ∀ (args : Array Value) (w : World), (callFunc 77 args).run Try.prog w = .ok (.enter 77 args) w := enters_of Try.func77 (by kernel_rfl) rfl
  have HEN := Lib.hid hen
  clear hen
  go_enter Try.func52, Try.ntmps52
  go_upto_region 1 with fail
  refine wp_world fun w1 hw1 => ?_
  have hs1 : Same w w1 := by rw [hw1]; exact ((((Frm.refl _ _).alloc _).alloc _).alloc _).alloc _
  have hBXa : Blk w1 (w.heap.size) 24 #[.int .i64 n, .slice Aa wsa.length Ca] := by
    rw [hw1]
    have := ((((Blk.new w 24 #[.int .i64 n, .slice Aa wsa.length Ca]).alloc (.cells #[.int .i64 v] 3)).alloc (.cells #[.bool b] 4)).alloc (.cells #[.int .i64 0, .slice none 0 0] 24))
    simpa using this
  have hBV : Blk w1 (w.heap.size + 1) 3 #[.int .i64 v] := by
    rw [hw1]
    have := (((Blk.new (w.alloc (.cells #[.int .i64 n, .slice Aa wsa.length Ca] 24)) 3 #[.int .i64 v]).alloc (.cells #[.bool b] 4)).alloc (.cells #[.int .i64 0, .slice none 0 0] 24))
    simpa using this
  have hBB : Blk w1 (w.heap.size + 1 + 1) 4 #[.bool b] := by
    rw [hw1]
    have := ((Blk.new ((w.alloc (.cells #[.int .i64 n, .slice Aa wsa.length Ca] 24)).alloc (.cells #[.int .i64 v] 3)) 4 #[.bool b]).alloc (.cells #[.int .i64 0, .slice none 0 0] 24))
    simpa using this
  have hBR : Blk w1 (w.heap.size + 1 + 1 + 1) 24 #[.int .i64 0, .slice none 0 0] := by
    rw [hw1]
    have := (Blk.new (((w.alloc (.cells #[.int .i64 n, .slice Aa wsa.length Ca] 24)).alloc (.cells #[.int .i64 v] 3)).alloc (.cells #[.bool b] 4)) 24 #[.int .i64 0, .slice none 0 0])
    simpa using this
  clear hw1
  obtain ⟨R, hR⟩ : ∃ b, w.heap.size + 1 + 1 + 1 = b := ⟨_, rfl⟩
  rw [hR] at hBR ⊢
  obtain ⟨B, hB⟩ : ∃ b, w.heap.size + 1 + 1 = b := ⟨_, rfl⟩
  rw [hB] at hBB ⊢
  obtain ⟨V, hV⟩ : ∃ b, w.heap.size + 1 = b := ⟨_, rfl⟩
  rw [hV] at hBV ⊢
  have leV : w.heap.size ≤ V := by omega
  have leB : w.heap.size ≤ B := by omega
  have leR : w.heap.size ≤ R := by omega
  have neXaV : w.heap.size ≠ V := by omega
  have neXaB : w.heap.size ≠ B := by omega
  have neXaR : w.heap.size ≠ R := by omega
  have neVB : V ≠ B := by omega
  have neVR : V ≠ R := by omega
  have neBR : B ≠ R := by omega
  clear hV hB hR
  have cXa0 : w1.cell? ⟨w.heap.size, 0, none⟩ = some (.int .i64 n) := hBXa.cell 0
  have cXa1 : w1.cell? ⟨w.heap.size, 1, none⟩ = some (.slice Aa wsa.length Ca) := hBXa.cell 1
  have lXa := hBXa.lt
  have fXa0 := hBXa.free 0
  have fXa1 := hBXa.free 1
  have HBXa := Lib.hid hBXa
  have cV0 : w1.cell? ⟨V, 0, none⟩ = some (.int .i64 v) := hBV.cell 0
  have lV := hBV.lt
  have fV0 := hBV.free 0
  have HBV := Lib.hid hBV
  have cB0 : w1.cell? ⟨B, 0, none⟩ = some (.bool b) := hBB.cell 0
  have lB := hBB.lt
  have fB0 := hBB.free 0
  have HBB := Lib.hid hBB
  have cR0 : w1.cell? ⟨R, 0, none⟩ = some (.int .i64 0) := hBR.cell 0
  have cR1 : w1.cell? ⟨R, 1, none⟩ = some (.slice none 0 0) := hBR.cell 1
  have lR := hBR.lt
  have fR0 := hBR.free 0
  have fR1 := hBR.free 1
  have HBR := Lib.hid hBR
  have HS1 := Lib.hid hs1
  clear hs1 hBXa hBV hBB hBR
  have htl : Tells w1 n 77 #[.pointer (some ⟨V, 0, none⟩), .pointer (some ⟨B, 0, none⟩), .pointer (some ⟨w.heap.size, 0, none⟩)] (halfN v b wsa) := fun i hi => ⟨halfN_lt HSM.out, fun w' hs' => by
    refine (half1_any n i v V B w.heap.size b Aa Ca wsa w' HF.out hi HV.out (Sl.same (Sl.same H.out.wl HS1.out) hs') HSM.out ((hs'.cell (p := ⟨V, 0, none⟩) lV id).trans cV0) ((hs'.cell (p := ⟨B, 0, none⟩) lB id).trans cB0) ((hs'.cell (p := ⟨w.heap.size, 1, none⟩) lXa id).trans cXa1)).mono ?_
    exact fun e w'' h => h⟩
  have HTL := Lib.hid htl
  clear htl
  go_wp2_with (fail)
  refine (laid_any n 77 #[.pointer (some ⟨V, 0, none⟩), .pointer (some ⟨B, 0, none⟩), .pointer (some ⟨w.heap.size, 0, none⟩)] (halfN v b wsa) w1 hn HEN.out HTL.out).mono ?_
  rintro e w3 ⟨Aq, Cq, rfl, hNT⟩
  rw [HTB.out] at hNT ⊢
  have hoq := hNT.1
  have hfq := hNT.2.1
  have hsq := hNT.2.2
  have hRq : ∀ a, Aq = some a → a.block ≠ R := fun a ha h => by
    have := hfq a.block ⟨a, ha, rfl⟩
    omega
  have HBRq := Lib.hid (HBR.out.frm hsq id)
  have HSq := Lib.hid (HS1.out.trans hsq (fun _ _ h => h))
  have hfq' : Fresh w.heap.size Aq := fun b hb => by have := hfq b hb; have := HS1.out.size; omega
  have HOQ := Lib.hid hoq
  have HFQ := Lib.hid hfq'
  have hcR0 : w3.cell? ⟨R, 0, none⟩ = some (.int .i64 0) := HBRq.out.cell 0
  have hcR1 : w3.cell? ⟨R, 1, none⟩ = some (.slice none 0 0) := HBRq.out.cell 1
  have hfR0 := HBRq.out.free 0
  have hfR1 := HBRq.out.free 1
  have hlR := HBRq.out.lt
  clear hNT hoq hfq hsq hfq'
  go_wp2
  refine wp_post fun we hwe => ?_
  have hBE : Blk we R 24 #[.int .i64 n, .slice Aq (tab n (hfF v b wsa)).length Cq] := by
    rw [hwe]
    have := (HBRq.out.set 0 (.int .i64 n)).set 1 (.slice Aq (tab n (hfF v b wsa)).length Cq)
    simpa using this
  have hSE : Same w we := by rw [hwe]; exact (HSq.out.setNew 0 _ leR).setNew 1 _ leR
  have hOE : OwnW we Aq (tab n (hfF v b wsa)).length Cq (tab n (hfF v b wsa)) := by
    rw [hwe]
    exact (Own.far (p := ⟨R, 0, none⟩) HOQ.out hRq _).far (p := ⟨R, 1, none⟩) hRq _
  have hr0 : we.cell? ⟨R, 0, none⟩ = some (.int .i64 n) := hBE.cell 0
  have hr1 : we.cell? ⟨R, 1, none⟩ = some (.slice Aq (tab n (hfF v b wsa)).length Cq) := hBE.cell 1
  clear hwe hBE
  refine bodyPost_ret (v := .agg #[.int .i64 n, .slice Aq (tab n (hfF v b wsa)).length Cq]) (by simp [results, Try.results52, go_sem, hr0, hr1]) rfl ?_
  exact ⟨Aq, Cq, rfl, hOE, HFQ.out, hSE⟩

/-- the error of a table and a variable -/
def ofE (N v : Int) (ws : List Nat) : Int := if frm N ws then (if v < 0 ∨ N ≤ v then 2 else 0) else 5
set_option maxHeartbeats 2000000 in
theorem of_any (Na : Int) (Aa : Option Addr) (Ca : Nat) (wsa : List Nat) (v : Int) (w : World) (h : TbOk w ⟨Na, Aa, Ca, wsa⟩) : Calls Try.prog 51 #[.agg #[.int .i64 Na, .slice Aa wsa.length Ca], .int .i64 v] w fun e w' => e = .returned (.int .i64 (ofE Na v wsa)) ∧ Same w w' := by
  have H := Lib.hid h
  clear h
  unfold ofE
  cases hfr : frm Na wsa with
  | false =>
    have HFM := Lib.hid ((frm_one Na Aa Ca wsa).trans hfr)
    clear hfr
    rw [if_neg (by decide)]
    go_enter Try.func51, Try.ntmps51
    go_upto_region 1 with fail
    refine wp_world fun w1 hw1 => ?_
    have hs1 : Same w w1 := by rw [hw1]; exact (Frm.refl _ _).alloc _
    have hBXa : Blk w1 (w.heap.size) 24 #[.int .i64 Na, .slice Aa wsa.length Ca] := by
      rw [hw1]
      have := (Blk.new w 24 #[.int .i64 Na, .slice Aa wsa.length Ca])
      simpa using this
    clear hw1
    have cXa0 : w1.cell? ⟨w.heap.size, 0, none⟩ = some (.int .i64 Na) := hBXa.cell 0
    have cXa1 : w1.cell? ⟨w.heap.size, 1, none⟩ = some (.slice Aa wsa.length Ca) := hBXa.cell 1
    have lXa := hBXa.lt
    have fXa0 := hBXa.free 0
    have fXa1 := hBXa.free 1
    have HBXa := Lib.hid hBXa
    have HS1 := Lib.hid hs1
    clear hs1 hBXa
    have HOKa := Lib.hid (H.out.same HS1.out)
    go_wp2_with (fail)
    refine call_world fun w2 hw2 => ?_
    have hs2 : Same w1 w2 := by rw [hw2]; exact (Frm.refl _ _).alloc _
    have hBL : Blk w2 w1.heap.size 24 #[.int .i64 Na, .slice Aa wsa.length Ca] := by rw [hw2]; exact Blk.new _ _ _
    have htbs : Tbs w2 w1.heap.size [⟨Na, Aa, Ca, wsa⟩] := by
      intro i t hi
      match i, hi with
      | 0, hi =>
        simp only [List.getElem?_cons_zero, Option.some.injEq] at hi
        subst hi
        exact ⟨hBL.lt, hBL.cell 0, hBL.cell 1⟩
      | i + 1, hi => simp at hi
    have hfc := form_any w1.heap.size 1 1 [⟨Na, Aa, Ca, wsa⟩] w2 rfl (by decide) htbs (fun t ht => by
      simp only [List.mem_cons, List.not_mem_nil, or_false] at ht
      rcases ht with rfl
      · exact (HOKa.out).same hs2)
    rw [HFM.out] at hfc
    refine hfc.mono ?_
    clear hfc htbs hBL hw2
    rintro e w3 ⟨rfl, hs3⟩
    have hs13 : Same w1 w3 := hs2.trans hs3 (fun _ _ h => h)
    clear hs2 hs3
    replace HBXa := Lib.hid (HBXa.out.frm hs13 id)
    replace cXa0 : w3.cell? ⟨w.heap.size, 0, none⟩ = some (.int .i64 Na) := HBXa.out.cell 0
    replace cXa1 : w3.cell? ⟨w.heap.size, 1, none⟩ = some (.slice Aa wsa.length Ca) := HBXa.out.cell 1
    replace lXa := HBXa.out.lt
    replace fXa0 := HBXa.out.free 0
    replace fXa1 := HBXa.out.free 1
    replace HS1 := Lib.hid (HS1.out.trans hs13 (fun _ _ h => h))
    clear hs13
    go_wp2
    go_ret
    exact ⟨rfl, HS1.out⟩
  | true =>
    have HFM := Lib.hid ((frm_one Na Aa Ca wsa).trans hfr)
    clear hfr
    rw [if_pos rfl]
    by_cases h1 : v < 0 ∨ Na ≤ v
    · rw [if_pos h1]
      by_cases h2 : v < 0
      · clear h1
        go_enter Try.func51, Try.ntmps51
        go_upto_region 1 with fail
        refine wp_world fun w1 hw1 => ?_
        have hs1 : Same w w1 := by rw [hw1]; exact (Frm.refl _ _).alloc _
        have hBXa : Blk w1 (w.heap.size) 24 #[.int .i64 Na, .slice Aa wsa.length Ca] := by
          rw [hw1]
          have := (Blk.new w 24 #[.int .i64 Na, .slice Aa wsa.length Ca])
          simpa using this
        clear hw1
        have cXa0 : w1.cell? ⟨w.heap.size, 0, none⟩ = some (.int .i64 Na) := hBXa.cell 0
        have cXa1 : w1.cell? ⟨w.heap.size, 1, none⟩ = some (.slice Aa wsa.length Ca) := hBXa.cell 1
        have lXa := hBXa.lt
        have fXa0 := hBXa.free 0
        have fXa1 := hBXa.free 1
        have HBXa := Lib.hid hBXa
        have HS1 := Lib.hid hs1
        clear hs1 hBXa
        have HOKa := Lib.hid (H.out.same HS1.out)
        go_wp2_with (fail)
        refine call_world fun w2 hw2 => ?_
        have hs2 : Same w1 w2 := by rw [hw2]; exact (Frm.refl _ _).alloc _
        have hBL : Blk w2 w1.heap.size 24 #[.int .i64 Na, .slice Aa wsa.length Ca] := by rw [hw2]; exact Blk.new _ _ _
        have htbs : Tbs w2 w1.heap.size [⟨Na, Aa, Ca, wsa⟩] := by
          intro i t hi
          match i, hi with
          | 0, hi =>
            simp only [List.getElem?_cons_zero, Option.some.injEq] at hi
            subst hi
            exact ⟨hBL.lt, hBL.cell 0, hBL.cell 1⟩
          | i + 1, hi => simp at hi
        have hfc := form_any w1.heap.size 1 1 [⟨Na, Aa, Ca, wsa⟩] w2 rfl (by decide) htbs (fun t ht => by
          simp only [List.mem_cons, List.not_mem_nil, or_false] at ht
          rcases ht with rfl
          · exact (HOKa.out).same hs2)
        rw [HFM.out] at hfc
        refine hfc.mono ?_
        clear hfc htbs hBL hw2
        rintro e w3 ⟨rfl, hs3⟩
        have hs13 : Same w1 w3 := hs2.trans hs3 (fun _ _ h => h)
        clear hs2 hs3
        replace HBXa := Lib.hid (HBXa.out.frm hs13 id)
        replace cXa0 : w3.cell? ⟨w.heap.size, 0, none⟩ = some (.int .i64 Na) := HBXa.out.cell 0
        replace cXa1 : w3.cell? ⟨w.heap.size, 1, none⟩ = some (.slice Aa wsa.length Ca) := HBXa.out.cell 1
        replace lXa := HBXa.out.lt
        replace fXa0 := HBXa.out.free 0
        replace fXa1 := HBXa.out.free 1
        replace HS1 := Lib.hid (HS1.out.trans hs13 (fun _ _ h => h))
        clear hs13
        go_wp2
        go_ret
        exact ⟨rfl, HS1.out⟩
      · have h3 : v ≥ Na := by omega
        clear h1
        go_enter Try.func51, Try.ntmps51
        go_upto_region 1 with fail
        refine wp_world fun w1 hw1 => ?_
        have hs1 : Same w w1 := by rw [hw1]; exact (Frm.refl _ _).alloc _
        have hBXa : Blk w1 (w.heap.size) 24 #[.int .i64 Na, .slice Aa wsa.length Ca] := by
          rw [hw1]
          have := (Blk.new w 24 #[.int .i64 Na, .slice Aa wsa.length Ca])
          simpa using this
        clear hw1
        have cXa0 : w1.cell? ⟨w.heap.size, 0, none⟩ = some (.int .i64 Na) := hBXa.cell 0
        have cXa1 : w1.cell? ⟨w.heap.size, 1, none⟩ = some (.slice Aa wsa.length Ca) := hBXa.cell 1
        have lXa := hBXa.lt
        have fXa0 := hBXa.free 0
        have fXa1 := hBXa.free 1
        have HBXa := Lib.hid hBXa
        have HS1 := Lib.hid hs1
        clear hs1 hBXa
        have HOKa := Lib.hid (H.out.same HS1.out)
        go_wp2_with (fail)
        refine call_world fun w2 hw2 => ?_
        have hs2 : Same w1 w2 := by rw [hw2]; exact (Frm.refl _ _).alloc _
        have hBL : Blk w2 w1.heap.size 24 #[.int .i64 Na, .slice Aa wsa.length Ca] := by rw [hw2]; exact Blk.new _ _ _
        have htbs : Tbs w2 w1.heap.size [⟨Na, Aa, Ca, wsa⟩] := by
          intro i t hi
          match i, hi with
          | 0, hi =>
            simp only [List.getElem?_cons_zero, Option.some.injEq] at hi
            subst hi
            exact ⟨hBL.lt, hBL.cell 0, hBL.cell 1⟩
          | i + 1, hi => simp at hi
        have hfc := form_any w1.heap.size 1 1 [⟨Na, Aa, Ca, wsa⟩] w2 rfl (by decide) htbs (fun t ht => by
          simp only [List.mem_cons, List.not_mem_nil, or_false] at ht
          rcases ht with rfl
          · exact (HOKa.out).same hs2)
        rw [HFM.out] at hfc
        refine hfc.mono ?_
        clear hfc htbs hBL hw2
        rintro e w3 ⟨rfl, hs3⟩
        have hs13 : Same w1 w3 := hs2.trans hs3 (fun _ _ h => h)
        clear hs2 hs3
        replace HBXa := Lib.hid (HBXa.out.frm hs13 id)
        replace cXa0 : w3.cell? ⟨w.heap.size, 0, none⟩ = some (.int .i64 Na) := HBXa.out.cell 0
        replace cXa1 : w3.cell? ⟨w.heap.size, 1, none⟩ = some (.slice Aa wsa.length Ca) := HBXa.out.cell 1
        replace lXa := HBXa.out.lt
        replace fXa0 := HBXa.out.free 0
        replace fXa1 := HBXa.out.free 1
        replace HS1 := Lib.hid (HS1.out.trans hs13 (fun _ _ h => h))
        clear hs13
        go_wp2
        go_ret
        exact ⟨rfl, HS1.out⟩
    · rw [if_neg h1]
      have h2 : ¬ v < 0 := by omega
      have h3 : ¬ v ≥ Na := by omega
      clear h1
      go_enter Try.func51, Try.ntmps51
      go_upto_region 1 with fail
      refine wp_world fun w1 hw1 => ?_
      have hs1 : Same w w1 := by rw [hw1]; exact (Frm.refl _ _).alloc _
      have hBXa : Blk w1 (w.heap.size) 24 #[.int .i64 Na, .slice Aa wsa.length Ca] := by
        rw [hw1]
        have := (Blk.new w 24 #[.int .i64 Na, .slice Aa wsa.length Ca])
        simpa using this
      clear hw1
      have cXa0 : w1.cell? ⟨w.heap.size, 0, none⟩ = some (.int .i64 Na) := hBXa.cell 0
      have cXa1 : w1.cell? ⟨w.heap.size, 1, none⟩ = some (.slice Aa wsa.length Ca) := hBXa.cell 1
      have lXa := hBXa.lt
      have fXa0 := hBXa.free 0
      have fXa1 := hBXa.free 1
      have HBXa := Lib.hid hBXa
      have HS1 := Lib.hid hs1
      clear hs1 hBXa
      have HOKa := Lib.hid (H.out.same HS1.out)
      go_wp2_with (fail)
      refine call_world fun w2 hw2 => ?_
      have hs2 : Same w1 w2 := by rw [hw2]; exact (Frm.refl _ _).alloc _
      have hBL : Blk w2 w1.heap.size 24 #[.int .i64 Na, .slice Aa wsa.length Ca] := by rw [hw2]; exact Blk.new _ _ _
      have htbs : Tbs w2 w1.heap.size [⟨Na, Aa, Ca, wsa⟩] := by
        intro i t hi
        match i, hi with
        | 0, hi =>
          simp only [List.getElem?_cons_zero, Option.some.injEq] at hi
          subst hi
          exact ⟨hBL.lt, hBL.cell 0, hBL.cell 1⟩
        | i + 1, hi => simp at hi
      have hfc := form_any w1.heap.size 1 1 [⟨Na, Aa, Ca, wsa⟩] w2 rfl (by decide) htbs (fun t ht => by
        simp only [List.mem_cons, List.not_mem_nil, or_false] at ht
        rcases ht with rfl
        · exact (HOKa.out).same hs2)
      rw [HFM.out] at hfc
      refine hfc.mono ?_
      clear hfc htbs hBL hw2
      rintro e w3 ⟨rfl, hs3⟩
      have hs13 : Same w1 w3 := hs2.trans hs3 (fun _ _ h => h)
      clear hs2 hs3
      replace HBXa := Lib.hid (HBXa.out.frm hs13 id)
      replace cXa0 : w3.cell? ⟨w.heap.size, 0, none⟩ = some (.int .i64 Na) := HBXa.out.cell 0
      replace cXa1 : w3.cell? ⟨w.heap.size, 1, none⟩ = some (.slice Aa wsa.length Ca) := HBXa.out.cell 1
      replace lXa := HBXa.out.lt
      replace fXa0 := HBXa.out.free 0
      replace fXa1 := HBXa.out.free 1
      replace HS1 := Lib.hid (HS1.out.trans hs13 (fun _ _ h => h))
      clear hs13
      go_wp2
      go_ret
      exact ⟨rfl, HS1.out⟩
end Go.Proofs.Ytlggmoghgoeiiaa
