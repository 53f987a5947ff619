/- Truth tables: Cofactor and Exists of the program. -/
import Derived.Test.YtlggmoghgoeiiaaTrCof
namespace Go.Proofs.Ytlggmoghgoeiiaa
open Go.RowKit Go.Tk

theorem ofE_ok {N v : Int} {ws : List Nat} (h : ofE N v ws = 0) : ∃ n V : Nat, N = n ∧ v = V ∧ FormN n ws ∧ V < n := by
  unfold ofE at h
  cases hf : frm N ws with
  | false => rw [hf, if_neg (by decide)] at h; cases h
  | true =>
    rw [hf, if_pos rfl] at h
    obtain ⟨n, rfl, hn⟩ := frm_true hf
    split at h
    · cases h
    · rename_i h1
      exact ⟨n, v.toNat, rfl, by omega, hn, by omega⟩
theorem fm_tabs {n : Nat} {A0 A1 : Option Addr} {C0 C1 : Nat} {F G : Nat → Bool} (h : n ≤ 16) : fm [⟨n, A0, C0, tab n F⟩, ⟨n, A1, C1, tab n G⟩] = true := by
  have h1 : frm n (tab n F) = true := frm_nat.2 (tab_form h)
  have h2 : frm n (tab n G) = true := frm_nat.2 (tab_form h)
  simp [fm, Tb.frm, h1, h2]
/-- some value of v -/
def exF (v : Nat) (ws : List Nat) : Nat → Bool := fun i => hfF v false ws i || hfF v true ws i
set_option maxRecDepth 100000 in
set_option maxHeartbeats 4000000 in
theorem Cofactor_any (Na : Int) (Aa : Option Addr) (Ca : Nat) (wsa : List Nat) (v : Int) (b : Bool) (w : World) (h : TbOk w ⟨Na, Aa, Ca, wsa⟩) : Calls Try.prog 14 #[.agg #[.int .i64 Na, .slice Aa wsa.length Ca], .int .i64 v, .bool b] w (RetA w Na (tab Na.toNat (hfF v.toNat b wsa)) (ofE Na v wsa)) := by
  have H := Lib.hid h
  clear h
  have hof := fun (w : World) (h : TbOk w ⟨Na, Aa, Ca, wsa⟩) => of_any Na Aa Ca wsa v w h
  obtain ⟨c, hc⟩ : ∃ c, ofE Na v wsa = c := ⟨_, rfl⟩
  rw [hc] at hof ⊢
  have HOF := Lib.hid hof
  clear hof
  by_cases h0 : ¬ c = 0
  · have h0' : (c != 0) = true := by simpa using h0
    unfold RetA
    rw [show ansN Na c = 0 by unfold ansN; rw [if_neg h0], show ansL (tab Na.toNat (hfF v.toNat b wsa)) c = [] by unfold ansL; rw [if_neg h0]]
    clear hc h0
    go_enter Try.func14, Try.ntmps14
    go_upto_region 1 with fail
    refine wp_world fun w1 hw1 => ?_
    have hs1 : Same w w1 := by rw [hw1]; exact ((Frm.refl _ _).alloc _).alloc _
    have hBXa : Blk w1 (w.heap.size) 24 #[.int .i64 Na, .slice Aa wsa.length Ca] := by
      rw [hw1]
      have := ((Blk.new w 24 #[.int .i64 Na, .slice Aa wsa.length Ca]).alloc (.cells #[.int .i64 0, .slice none 0 0] 24))
      simpa using this
    have hBR : Blk w1 (w.heap.size + 1) 24 #[.int .i64 0, .slice none 0 0] := by
      rw [hw1]
      have := (Blk.new (w.alloc (.cells #[.int .i64 Na, .slice Aa wsa.length Ca] 24)) 24 #[.int .i64 0, .slice none 0 0])
      simpa using this
    clear hw1
    obtain ⟨R, hR⟩ : ∃ b, w.heap.size + 1 = b := ⟨_, rfl⟩
    rw [hR] at hBR ⊢
    have leR : w.heap.size ≤ R := by omega
    have neXaR : w.heap.size ≠ R := by omega
    clear hR
    have cXa0 : w1.cell? ⟨w.heap.size, 0, none⟩ = some (.int .i64 Na) := hBXa.cell 0
    have cXa1 : w1.cell? ⟨w.heap.size, 1, none⟩ = some (.slice Aa wsa.length Ca) := hBXa.cell 1
    have lXa := hBXa.lt
    have fXa0 := hBXa.free 0
    have fXa1 := hBXa.free 1
    have HBXa := Lib.hid hBXa
    have cR0 : w1.cell? ⟨R, 0, none⟩ = some (.int .i64 0) := hBR.cell 0
    have cR1 : w1.cell? ⟨R, 1, none⟩ = some (.slice none 0 0) := hBR.cell 1
    have lR := hBR.lt
    have fR0 := hBR.free 0
    have fR1 := hBR.free 1
    have HBR := Lib.hid hBR
    have HS1 := Lib.hid hs1
    clear hs1 hBXa hBR
    go_wp2_with (fail)
    refine (HOF.out w1 (H.out.same HS1.out)).mono ?_
    rintro e w3 ⟨rfl, hs13⟩
    replace HBXa := Lib.hid (HBXa.out.frm hs13 id)
    replace cXa0 : w3.cell? ⟨w.heap.size, 0, none⟩ = some (.int .i64 Na) := HBXa.out.cell 0
    replace cXa1 : w3.cell? ⟨w.heap.size, 1, none⟩ = some (.slice Aa wsa.length Ca) := HBXa.out.cell 1
    replace lXa := HBXa.out.lt
    replace fXa0 := HBXa.out.free 0
    replace fXa1 := HBXa.out.free 1
    replace HBR := Lib.hid (HBR.out.frm hs13 id)
    replace cR0 : w3.cell? ⟨R, 0, none⟩ = some (.int .i64 0) := HBR.out.cell 0
    replace cR1 : w3.cell? ⟨R, 1, none⟩ = some (.slice none 0 0) := HBR.out.cell 1
    replace lR := HBR.out.lt
    replace fR0 := HBR.out.free 0
    replace fR1 := HBR.out.free 1
    replace HS1 := Lib.hid (HS1.out.trans hs13 (fun _ _ h => h))
    clear hs13
    go_wp2
    refine wp_post fun we hwe => ?_
    have hBE : Blk we R 24 #[.int .i64 0, .slice none 0 0] := by
      rw [hwe]
      have := (HBR.out.set 0 (.int .i64 0)).set 1 (.slice none 0 0)
      simpa using this
    have hSE : Same w we := by rw [hwe]; exact (HS1.out.setNew 0 _ leR).setNew 1 _ leR
    have hr0 : we.cell? ⟨R, 0, none⟩ = some (.int .i64 0) := hBE.cell 0
    have hr1 : we.cell? ⟨R, 1, none⟩ = some (.slice none 0 0) := hBE.cell 1
    clear hwe hBE
    refine bodyPost_ret (v := .tuple #[.agg #[.int .i64 0, .slice none 0 0], .int .i64 c]) (by simp [results, Try.results14, go_sem, hr0, hr1]) rfl ?_
    exact ⟨none, 0, rfl, NewT.nil hSE⟩
  replace h0 : c = 0 := by omega
  subst h0
  obtain ⟨n, V, rfl, rfl, hf, hv⟩ := ofE_ok hc
  have hn := hf.n16
  unfold RetA
  rw [show ansN n 0 = n from rfl, show ansL (tab (n : Int).toNat (hfF (V : Int).toNat b wsa)) 0 = tab n (hfF V b wsa) from rfl]
  have HF := Lib.hid hf
  have HV := Lib.hid hv
  clear hc hf hv
  go_enter Try.func14, Try.ntmps14
  go_upto_region 1 with fail
  refine wp_world fun w1 hw1 => ?_
  have hs1 : Same w w1 := by rw [hw1]; exact ((Frm.refl _ _).alloc _).alloc _
  have hBXa : Blk w1 (w.heap.size) 24 #[.int .i64 n, .slice Aa wsa.length Ca] := by
    rw [hw1]
    have := ((Blk.new w 24 #[.int .i64 n, .slice Aa wsa.length Ca]).alloc (.cells #[.int .i64 0, .slice none 0 0] 24))
    simpa using this
  have hBR : Blk w1 (w.heap.size + 1) 24 #[.int .i64 0, .slice none 0 0] := by
    rw [hw1]
    have := (Blk.new (w.alloc (.cells #[.int .i64 n, .slice Aa wsa.length Ca] 24)) 24 #[.int .i64 0, .slice none 0 0])
    simpa using this
  clear hw1
  obtain ⟨R, hR⟩ : ∃ b, w.heap.size + 1 = b := ⟨_, rfl⟩
  rw [hR] at hBR ⊢
  have leR : w.heap.size ≤ R := by omega
  have neXaR : w.heap.size ≠ R := by omega
  clear hR
  have cXa0 : w1.cell? ⟨w.heap.size, 0, none⟩ = some (.int .i64 n) := hBXa.cell 0
  have cXa1 : w1.cell? ⟨w.heap.size, 1, none⟩ = some (.slice Aa wsa.length Ca) := hBXa.cell 1
  have lXa := hBXa.lt
  have fXa0 := hBXa.free 0
  have fXa1 := hBXa.free 1
  have HBXa := Lib.hid hBXa
  have cR0 : w1.cell? ⟨R, 0, none⟩ = some (.int .i64 0) := hBR.cell 0
  have cR1 : w1.cell? ⟨R, 1, none⟩ = some (.slice none 0 0) := hBR.cell 1
  have lR := hBR.lt
  have fR0 := hBR.free 0
  have fR1 := hBR.free 1
  have HBR := Lib.hid hBR
  have HS1 := Lib.hid hs1
  clear hs1 hBXa hBR
  go_wp2_with (fail)
  refine (HOF.out w1 (H.out.same HS1.out)).mono ?_
  rintro e w3 ⟨rfl, hs13⟩
  replace HBXa := Lib.hid (HBXa.out.frm hs13 id)
  replace cXa0 : w3.cell? ⟨w.heap.size, 0, none⟩ = some (.int .i64 n) := HBXa.out.cell 0
  replace cXa1 : w3.cell? ⟨w.heap.size, 1, none⟩ = some (.slice Aa wsa.length Ca) := HBXa.out.cell 1
  replace lXa := HBXa.out.lt
  replace fXa0 := HBXa.out.free 0
  replace fXa1 := HBXa.out.free 1
  replace HBR := Lib.hid (HBR.out.frm hs13 id)
  replace cR0 : w3.cell? ⟨R, 0, none⟩ = some (.int .i64 0) := HBR.out.cell 0
  replace cR1 : w3.cell? ⟨R, 1, none⟩ = some (.slice none 0 0) := HBR.out.cell 1
  replace lR := HBR.out.lt
  replace fR0 := HBR.out.free 0
  replace fR1 := HBR.out.free 1
  replace HS1 := Lib.hid (HS1.out.trans hs13 (fun _ _ h => h))
  clear hs13
  go_wp2_with (fail)
  refine (half_any n V b Aa Ca wsa w3 (H.out.same HS1.out) HF.out HV.out).mono ?_
  rintro e w4 ⟨Aq, Cq, rfl, hNT⟩
  have hoq := hNT.1
  have hfq := hNT.2.1
  have hsq := hNT.2.2
  have hRq : ∀ a, Aq = some a → a.block ≠ R := fun a ha h => by
    have := hfq a.block ⟨a, ha, rfl⟩
    omega
  have HBRq := Lib.hid (HBR.out.frm hsq id)
  have HSq := Lib.hid (HS1.out.trans hsq (fun _ _ h => h))
  have hfq' : Fresh w.heap.size Aq := fun b hb => by have := hfq b hb; have := HS1.out.size; omega
  have HOQ := Lib.hid hoq
  have HFQ := Lib.hid hfq'
  have hcR0 : w4.cell? ⟨R, 0, none⟩ = some (.int .i64 0) := HBRq.out.cell 0
  have hcR1 : w4.cell? ⟨R, 1, none⟩ = some (.slice none 0 0) := HBRq.out.cell 1
  have hfR0 := HBRq.out.free 0
  have hfR1 := HBRq.out.free 1
  have hlR := HBRq.out.lt
  clear hNT hoq hfq hsq hfq'
  go_wp2
  refine wp_post fun we hwe => ?_
  have hBE : Blk we R 24 #[.int .i64 n, .slice Aq (tab n (hfF V b wsa)).length Cq] := by
    rw [hwe]
    have := (HBRq.out.set 0 (.int .i64 n)).set 1 (.slice Aq (tab n (hfF V b wsa)).length Cq)
    simpa using this
  have hSE : Same w we := by rw [hwe]; exact (HSq.out.setNew 0 _ leR).setNew 1 _ leR
  have hOE : OwnW we Aq (tab n (hfF V b wsa)).length Cq (tab n (hfF V b wsa)) := by
    rw [hwe]
    exact (Own.far (p := ⟨R, 0, none⟩) HOQ.out hRq _).far (p := ⟨R, 1, none⟩) hRq _
  have hr0 : we.cell? ⟨R, 0, none⟩ = some (.int .i64 n) := hBE.cell 0
  have hr1 : we.cell? ⟨R, 1, none⟩ = some (.slice Aq (tab n (hfF V b wsa)).length Cq) := hBE.cell 1
  clear hwe hBE
  refine bodyPost_ret (v := .tuple #[.agg #[.int .i64 n, .slice Aq (tab n (hfF V b wsa)).length Cq], .int .i64 0]) (by simp [results, Try.results14, go_sem, hr0, hr1]) rfl ?_
  exact ⟨Aq, Cq, rfl, hOE, HFQ.out, hSE⟩
set_option maxRecDepth 100000 in
set_option maxHeartbeats 4000000 in
theorem Exists_any (Na : Int) (Aa : Option Addr) (Ca : Nat) (wsa : List Nat) (v : Int) (w : World) (h : TbOk w ⟨Na, Aa, Ca, wsa⟩) : Calls Try.prog 18 #[.agg #[.int .i64 Na, .slice Aa wsa.length Ca], .int .i64 v] w (RetA w Na (tab Na.toNat (exF v.toNat wsa)) (ofE Na v wsa)) := by
  have H := Lib.hid h
  clear h
  have hof := fun (w : World) (h : TbOk w ⟨Na, Aa, Ca, wsa⟩) => of_any Na Aa Ca wsa v w h
  obtain ⟨c, hc⟩ : ∃ c, ofE Na v wsa = c := ⟨_, rfl⟩
  rw [hc] at hof ⊢
  have HOF := Lib.hid hof
  clear hof
  by_cases h0 : ¬ c = 0
  · have h0' : (c != 0) = true := by simpa using h0
    unfold RetA
    rw [show ansN Na c = 0 by unfold ansN; rw [if_neg h0], show ansL (tab Na.toNat (exF v.toNat wsa)) c = [] by unfold ansL; rw [if_neg h0]]
    clear hc h0
    go_enter Try.func18, Try.ntmps18
    go_upto_region 1 with fail
    refine wp_world fun w1 hw1 => ?_
    have hs1 : Same w w1 := by rw [hw1]; exact ((Frm.refl _ _).alloc _).alloc _
    have hBXa : Blk w1 (w.heap.size) 24 #[.int .i64 Na, .slice Aa wsa.length Ca] := by
      rw [hw1]
      have := ((Blk.new w 24 #[.int .i64 Na, .slice Aa wsa.length Ca]).alloc (.cells #[.int .i64 0, .slice none 0 0] 24))
      simpa using this
    have hBR : Blk w1 (w.heap.size + 1) 24 #[.int .i64 0, .slice none 0 0] := by
      rw [hw1]
      have := (Blk.new (w.alloc (.cells #[.int .i64 Na, .slice Aa wsa.length Ca] 24)) 24 #[.int .i64 0, .slice none 0 0])
      simpa using this
    clear hw1
    obtain ⟨R, hR⟩ : ∃ b, w.heap.size + 1 = b := ⟨_, rfl⟩
    rw [hR] at hBR ⊢
    have leR : w.heap.size ≤ R := by omega
    have neXaR : w.heap.size ≠ R := by omega
    clear hR
    have cXa0 : w1.cell? ⟨w.heap.size, 0, none⟩ = some (.int .i64 Na) := hBXa.cell 0
    have cXa1 : w1.cell? ⟨w.heap.size, 1, none⟩ = some (.slice Aa wsa.length Ca) := hBXa.cell 1
    have lXa := hBXa.lt
    have fXa0 := hBXa.free 0
    have fXa1 := hBXa.free 1
    have HBXa := Lib.hid hBXa
    have cR0 : w1.cell? ⟨R, 0, none⟩ = some (.int .i64 0) := hBR.cell 0
    have cR1 : w1.cell? ⟨R, 1, none⟩ = some (.slice none 0 0) := hBR.cell 1
    have lR := hBR.lt
    have fR0 := hBR.free 0
    have fR1 := hBR.free 1
    have HBR := Lib.hid hBR
    have HS1 := Lib.hid hs1
    clear hs1 hBXa hBR
    go_wp2_with (fail)
    refine (HOF.out w1 (H.out.same HS1.out)).mono ?_
    rintro e w3 ⟨rfl, hs13⟩
    replace HBXa := Lib.hid (HBXa.out.frm hs13 id)
    replace cXa0 : w3.cell? ⟨w.heap.size, 0, none⟩ = some (.int .i64 Na) := HBXa.out.cell 0
    replace cXa1 : w3.cell? ⟨w.heap.size, 1, none⟩ = some (.slice Aa wsa.length Ca) := HBXa.out.cell 1
    replace lXa := HBXa.out.lt
    replace fXa0 := HBXa.out.free 0
    replace fXa1 := HBXa.out.free 1
    replace HBR := Lib.hid (HBR.out.frm hs13 id)
    replace cR0 : w3.cell? ⟨R, 0, none⟩ = some (.int .i64 0) := HBR.out.cell 0
    replace cR1 : w3.cell? ⟨R, 1, none⟩ = some (.slice none 0 0) := HBR.out.cell 1
    replace lR := HBR.out.lt
    replace fR0 := HBR.out.free 0
    replace fR1 := HBR.out.free 1
    replace HS1 := Lib.hid (HS1.out.trans hs13 (fun _ _ h => h))
    clear hs13
    go_wp2
    refine wp_post fun we hwe => ?_
    have hBE : Blk we R 24 #[.int .i64 0, .slice none 0 0] := by
      rw [hwe]
      have := (HBR.out.set 0 (.int .i64 0)).set 1 (.slice none 0 0)
      simpa using this
    have hSE : Same w we := by rw [hwe]; exact (HS1.out.setNew 0 _ leR).setNew 1 _ leR
    have hr0 : we.cell? ⟨R, 0, none⟩ = some (.int .i64 0) := hBE.cell 0
    have hr1 : we.cell? ⟨R, 1, none⟩ = some (.slice none 0 0) := hBE.cell 1
    clear hwe hBE
    refine bodyPost_ret (v := .tuple #[.agg #[.int .i64 0, .slice none 0 0], .int .i64 c]) (by simp [results, Try.results18, go_sem, hr0, hr1]) rfl ?_
    exact ⟨none, 0, rfl, NewT.nil hSE⟩
  replace h0 : c = 0 := by omega
  subst h0
  obtain ⟨n, V, rfl, rfl, hf, hv⟩ := ofE_ok hc
  have hn := hf.n16
  unfold RetA
  rw [show ansN n 0 = n from rfl, show ansL (tab (n : Int).toNat (exF (V : Int).toNat wsa)) 0 = tab n (exF V wsa) from rfl]
  have HF := Lib.hid hf
  have HV := Lib.hid hv
  clear hc hf hv
  go_enter Try.func18, Try.ntmps18
  go_upto_region 1 with fail
  refine wp_world fun w1 hw1 => ?_
  have hs1 : Same w w1 := by rw [hw1]; exact ((Frm.refl _ _).alloc _).alloc _
  have hBXa : Blk w1 (w.heap.size) 24 #[.int .i64 n, .slice Aa wsa.length Ca] := by
    rw [hw1]
    have := ((Blk.new w 24 #[.int .i64 n, .slice Aa wsa.length Ca]).alloc (.cells #[.int .i64 0, .slice none 0 0] 24))
    simpa using this
  have hBR : Blk w1 (w.heap.size + 1) 24 #[.int .i64 0, .slice none 0 0] := by
    rw [hw1]
    have := (Blk.new (w.alloc (.cells #[.int .i64 n, .slice Aa wsa.length Ca] 24)) 24 #[.int .i64 0, .slice none 0 0])
    simpa using this
  clear hw1
  obtain ⟨R, hR⟩ : ∃ b, w.heap.size + 1 = b := ⟨_, rfl⟩
  rw [hR] at hBR ⊢
  have leR : w.heap.size ≤ R := by omega
  have neXaR : w.heap.size ≠ R := by omega
  clear hR
  have cXa0 : w1.cell? ⟨w.heap.size, 0, none⟩ = some (.int .i64 n) := hBXa.cell 0
  have cXa1 : w1.cell? ⟨w.heap.size, 1, none⟩ = some (.slice Aa wsa.length Ca) := hBXa.cell 1
  have lXa := hBXa.lt
  have fXa0 := hBXa.free 0
  have fXa1 := hBXa.free 1
  have HBXa := Lib.hid hBXa
  have cR0 : w1.cell? ⟨R, 0, none⟩ = some (.int .i64 0) := hBR.cell 0
  have cR1 : w1.cell? ⟨R, 1, none⟩ = some (.slice none 0 0) := hBR.cell 1
  have lR := hBR.lt
  have fR0 := hBR.free 0
  have fR1 := hBR.free 1
  have HBR := Lib.hid hBR
  have HS1 := Lib.hid hs1
  clear hs1 hBXa hBR
  go_wp2_with (fail)
  refine (HOF.out w1 (H.out.same HS1.out)).mono ?_
  rintro e w3 ⟨rfl, hs13⟩
  replace HBXa := Lib.hid (HBXa.out.frm hs13 id)
  replace cXa0 : w3.cell? ⟨w.heap.size, 0, none⟩ = some (.int .i64 n) := HBXa.out.cell 0
  replace cXa1 : w3.cell? ⟨w.heap.size, 1, none⟩ = some (.slice Aa wsa.length Ca) := HBXa.out.cell 1
  replace lXa := HBXa.out.lt
  replace fXa0 := HBXa.out.free 0
  replace fXa1 := HBXa.out.free 1
  replace HBR := Lib.hid (HBR.out.frm hs13 id)
  replace cR0 : w3.cell? ⟨R, 0, none⟩ = some (.int .i64 0) := HBR.out.cell 0
  replace cR1 : w3.cell? ⟨R, 1, none⟩ = some (.slice none 0 0) := HBR.out.cell 1
  replace lR := HBR.out.lt
  replace fR0 := HBR.out.free 0
  replace fR1 := HBR.out.free 1
  replace HS1 := Lib.hid (HS1.out.trans hs13 (fun _ _ h => h))
  clear hs13
  obtain ⟨S, hS⟩ : ∃ S : Nat → Prop, (fun b => b = R) = S := ⟨_, rfl⟩
  have hSX : ¬ S w.heap.size := by rw [← hS]; exact neXaR
  have HSS := Lib.hid hS
  clear hS
  go_upto_region 4 with fail
  refine wp_phS S [([0, 1, 3, 4], 2), ([], 5), ([], 6), ([7, 8], 9), ([], 10)] (by kernel_rfl) (by kernel_rfl) ?_
  simp only [wpPh, pick, List.map_cons, List.map_nil, List.getD_cons_zero, List.getD_cons_succ]
  repeat (any_goals (first | go_big_quiet_step (fail) | quiet_step (fail)))
  refine wpQuiet_nil ?_
  refine effStep_plain rfl fun K hK => ?_
  go_simp
  have hs3d : Same w3 w3.drew := (Frm.refl _ _).drew
  refine (half_any n V false Aa Ca wsa _ (H.out.same (HS1.out.trans hs3d (fun _ _ h => h))) HF.out HV.out).mono ?_
  rintro e w4 ⟨A0, C0, rfl, hNT⟩
  have hs34 : Same w3 w4 := hs3d.trans hNT.2.2 (fun _ _ h => h)
  have HO0 := Lib.hid hNT.1
  have HS34 := Lib.hid hs34
  refine hK _ _ (Lat.mk_ (Frm.mono hs34 (fun _ _ h => h.elim))) ?_
  clear hK K hNT hs3d
  refine wpQuiet_nil ?_
  refine effStep_plain rfl fun K hK => ?_
  go_simp
  refine (half_any n V true Aa Ca wsa _ (H.out.same (HS1.out.trans hs34 (fun _ _ h => h))) HF.out HV.out).mono ?_
  rintro e w5 ⟨A1, C1, rfl, hNT⟩
  have hs35 : Same w3 w5 := hs34.trans hNT.2.2 (fun _ _ h => h)
  have HO1 := Lib.hid hNT.1
  have HO05 := Lib.hid (Own.frm HO0.out hNT.2.2 (fun _ _ => id))
  have HS35 := Lib.hid hs35
  refine hK _ _ (Lat.mk_ (Frm.mono hs35 (fun _ _ h => h.elim))) ?_
  clear hK K hNT HO0 hs34 HS34
  refine wpQuiet_nil ?_
  refine effStep_plain rfl fun K hK => ?_
  go_simp
  have hBin := Binary_any 14 n A0 C0 (tab n (hfF V false wsa)) n A1 C1 (tab n (hfF V true wsa)) w5 (by decide) ⟨HO05.out.sl ucell_len, fun x hx => tab_lt x hx⟩ ⟨HO1.out.sl ucell_len, fun x hx => tab_lt x hx⟩
  rw [show binE 14 (fm [⟨n, A0, C0, tab n (hfF V false wsa)⟩, ⟨n, A1, C1, tab n (hfF V true wsa)⟩]) = 0 by rw [fm_tabs hn]; rfl] at hBin
  unfold RetA at hBin
  have hTE : tab n (binF 14 (tab n (hfF V false wsa)) (tab n (hfF V true wsa))) = tab n (exF V wsa) := tab_congr fun i hi => by
    unfold binF exF
    rw [vb_tab hi, vb_tab hi]
    cases hfF V false wsa i <;> cases hfF V true wsa i <;> decide
  rw [show ansN n 0 = n from rfl, show ansL (tab (n : Int).toNat (binF 14 (tab n (hfF V false wsa)) (tab n (hfF V true wsa)))) 0 = tab n (exF V wsa) from hTE] at hBin
  clear hTE
  refine hBin.mono ?_
  clear hBin
  rintro e w6 ⟨Aq, Cq, rfl, hNT⟩
  have hs36 : Same w3 w6 := hs35.trans hNT.2.2 (fun _ _ h => h)
  have hoq := hNT.1
  have hfq := hNT.2.1
  have hRq : ∀ a, Aq = some a → a.block ≠ R := fun a ha h => by
    have := hfq a.block ⟨a, ha, rfl⟩
    have := hs35.size
    omega
  have HBRq := Lib.hid (HBR.out.frm hs36 id)
  have HSq := Lib.hid (HS1.out.trans hs36 (fun _ _ h => h))
  have hfq' : Fresh w.heap.size Aq := fun b hb => by have := hfq b hb; have := HS1.out.size; have := hs35.size; omega
  have HOQ := Lib.hid hoq
  have HFQ := Lib.hid hfq'
  refine hK _ _ (Lat.mk_ (Frm.mono hs36 (fun _ _ h => h.elim))) ?_
  have hcR0 : w6.cell? ⟨R, 0, none⟩ = some (.int .i64 0) := HBRq.out.cell 0
  have hcR1 : w6.cell? ⟨R, 1, none⟩ = some (.slice none 0 0) := HBRq.out.cell 1
  have hfR0 := HBRq.out.free 0
  have hfR1 := HBRq.out.free 1
  have hlR := HBRq.out.lt
  have HS36 := Lib.hid hs36
  clear hK K hNT hoq hfq hfq' HO05 HO1 hs35 HS35 hs36
  repeat (any_goals (first | go_big_quiet_step (fail) | quiet_step (fail)))
  refine wpQuiet_nil ?_
  refine effStep_plain rfl fun K hK => ?_
  go_simp
  refine hK _ _ (Lat.mk_ ?_) ?_
  · have hSR : S R := cast (congrFun HSS.out R) rfl
    have hF6 : Frm S w3 w6 := Frm.mono HS36.out (fun _ _ h => h.elim)
    exact (hF6.setCell (p := ⟨R, 0, none⟩) (.inl hSR) _).setCell (p := ⟨R, 1, none⟩) (.inl hSR) _
  clear hK K
  refine wpQuiet_nil ?_
  go_wp2
  refine wp_post fun we hwe => ?_
  have hBE : Blk we R 24 #[.int .i64 n, .slice Aq (tab n (exF V wsa)).length Cq] := by
    rw [hwe]
    have := (HBRq.out.set 0 (.int .i64 n)).set 1 (.slice Aq (tab n (exF V wsa)).length Cq)
    simpa using this
  have hSE : Same w we := by rw [hwe]; exact (HSq.out.setNew 0 _ leR).setNew 1 _ leR
  have hOE : OwnW we Aq (tab n (exF V wsa)).length Cq (tab n (exF V wsa)) := by
    rw [hwe]
    exact (Own.far (p := ⟨R, 0, none⟩) HOQ.out hRq _).far (p := ⟨R, 1, none⟩) hRq _
  have hr0 : we.cell? ⟨R, 0, none⟩ = some (.int .i64 n) := hBE.cell 0
  have hr1 : we.cell? ⟨R, 1, none⟩ = some (.slice Aq (tab n (exF V wsa)).length Cq) := hBE.cell 1
  clear hwe hBE
  refine bodyPost_ret (v := .tuple #[.agg #[.int .i64 n, .slice Aq (tab n (exF V wsa)).length Cq], .int .i64 0]) (by simp [results, Try.results18, go_sem, hr0, hr1]) rfl ?_
  exact ⟨Aq, Cq, rfl, hOE, HFQ.out, hSE⟩
end Go.Proofs.Ytlggmoghgoeiiaa
