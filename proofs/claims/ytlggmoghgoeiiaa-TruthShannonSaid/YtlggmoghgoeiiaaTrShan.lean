/- Truth tables: TruthShannon: the walk. -/
import Derived.Test.YtlggmoghgoeiiaaTrShP
namespace Go.Proofs.Ytlggmoghgoeiiaa
open Go.RowKit Go.Tk

/-- a table that lies in a block -/
structure Tv (w : World) (T : Nat) (n : Int) (A : Option Addr) (C : Nat) (ws : List Nat) : Prop where
  blk : Blk w T 24 #[.int .i64 n, .slice A ws.length C]
  wl : WL w A ws.length ws
theorem Tv.same {w w' : World} {T : Nat} {n : Int} {A : Option Addr} {C : Nat} {ws : List Nat} (h : Tv w T n A C ws) (hs : Same w w') : Tv w' T n A C ws := ⟨h.blk.frm hs id, Sl.same h.wl hs⟩
theorem Tv.make {w w' : World} {n : Int} {A : Option Addr} {C : Nat} {ws : List Nat} (h : WL w A ws.length ws) (hw : w' = w.alloc (.cells #[.int .i64 n, .slice A ws.length C] 24)) : Tv w' w.heap.size n A C ws ∧ Same w w' := by
  subst hw
  have hs : Same w (w.alloc (.cells #[.int .i64 n, .slice A ws.length C] 24)) := (Frm.refl _ _).alloc _
  exact ⟨⟨Blk.new w _ _, Sl.same h hs⟩, hs⟩
theorem sup_bit {n V : Nat} {ws : List Nat} (hV : V < n) : (bsum (depB n ws) n).testBit V = !sm n n (tab n (hfF V true ws)) (tab n (hfF V false ws)) := by
  rw [bsum_bit, decide_eq_true hV, Bool.true_and]
  unfold depB sm
  generalize tab n (hfF V true ws) = a
  generalize tab n (hfF V false ws) = b
  by_cases he : a = b
  · subst he; simp
  · have he2 : ¬ b = a := fun h => he h.symm
    simp [he, he2]
theorem tab_small (n : Nat) (F : Nat → Bool) : Small (tab n F) := fun x hx => tab_lt x hx
set_option maxRecDepth 100000 in
set_option maxHeartbeats 16000000 in
theorem shannon_walk (Na : Int) (Aa : Option Addr) (Ca : Nat) (wsa : List Nat) (v : Int) (w : World) (h : TbIn w ⟨Na, Aa, Ca, wsa⟩) : Calls Try.prog 10 #[.agg #[.int .i64 Na, .slice Aa wsa.length Ca], .int .i64 v] w fun e w' => e = .returned (.bool true) ∧ Below w.heap.size w w' := by
  have H := Lib.hid h
  clear h
  cases hfr : frm Na wsa with
  | false =>
    have HFM := Lib.hid ((frm_one Na Aa Ca wsa).trans hfr)
    clear hfr
    go_enter Try.func10, Try.ntmps10
    go_upto_region 1 with fail
    refine wp_world fun w1 hw1 => ?_
    have hs1 : Same w w1 := by rw [hw1]; exact (Frm.refl _ _).alloc _
    have hBXa : Blk w1 (w.heap.size) 24 #[.int .i64 Na, .slice Aa wsa.length Ca] := by
      rw [hw1]
      have := (Blk.new w 24 #[.int .i64 Na, .slice Aa wsa.length Ca])
      simpa using this
    clear hw1
    have cXa0 : w1.cell? ⟨w.heap.size, 0, none⟩ = some (.int .i64 Na) := hBXa.cell 0
    have cXa1 : w1.cell? ⟨w.heap.size, 1, none⟩ = some (.slice Aa wsa.length Ca) := hBXa.cell 1
    have lXa := hBXa.lt
    have fXa0 := hBXa.free 0
    have fXa1 := hBXa.free 1
    have HBXa := Lib.hid hBXa
    have HS1 := Lib.hid hs1
    clear hs1 hBXa
    go_wp2_with (fail)
    refine (awake_any w1).mono ?_
    rintro e w2a ⟨rfl, hs13⟩
    replace HBXa := Lib.hid (HBXa.out.frm hs13 id)
    replace cXa0 : w2a.cell? ⟨w.heap.size, 0, none⟩ = some (.int .i64 Na) := HBXa.out.cell 0
    replace cXa1 : w2a.cell? ⟨w.heap.size, 1, none⟩ = some (.slice Aa wsa.length Ca) := HBXa.out.cell 1
    replace lXa := HBXa.out.lt
    replace fXa0 := HBXa.out.free 0
    replace fXa1 := HBXa.out.free 1
    replace HS1 := Lib.hid (HS1.out.trans hs13 (fun _ _ h => h))
    clear hs13
    have HOKa := Lib.hid (H.out.ok.same HS1.out)
    go_wp2_with (fail)
    refine call_world fun w2 hw2 => ?_
    have hs2 : Same w2a w2 := by rw [hw2]; exact (Frm.refl _ _).alloc _
    have hBL : Blk w2 w2a.heap.size 24 #[.int .i64 Na, .slice Aa wsa.length Ca] := by rw [hw2]; exact Blk.new _ _ _
    have htbs : Tbs w2 w2a.heap.size [⟨Na, Aa, Ca, wsa⟩] := by
      intro i t hi
      match i, hi with
      | 0, hi =>
        simp only [List.getElem?_cons_zero, Option.some.injEq] at hi
        subst hi
        exact ⟨hBL.lt, hBL.cell 0, hBL.cell 1⟩
      | i + 1, hi => simp at hi
    have hfc := good_any w2a.heap.size 1 1 [⟨Na, Aa, Ca, wsa⟩] w2 rfl (by decide) htbs (fun t ht => by
      simp only [List.mem_cons, List.not_mem_nil, or_false] at ht
      rcases ht with rfl
      · exact (HOKa.out).same hs2)
    rw [HFM.out] at hfc
    refine hfc.mono ?_
    clear hfc htbs hBL hw2
    rintro e w3 ⟨rfl, hs3⟩
    have hs23 : Same w2a w3 := hs2.trans hs3 (fun _ _ h => h)
    clear hs2 hs3
    replace HBXa := Lib.hid (HBXa.out.frm hs23 id)
    replace cXa0 : w3.cell? ⟨w.heap.size, 0, none⟩ = some (.int .i64 Na) := HBXa.out.cell 0
    replace cXa1 : w3.cell? ⟨w.heap.size, 1, none⟩ = some (.slice Aa wsa.length Ca) := HBXa.out.cell 1
    replace lXa := HBXa.out.lt
    replace fXa0 := HBXa.out.free 0
    replace fXa1 := HBXa.out.free 1
    replace HS1 := Lib.hid (HS1.out.trans hs23 (fun _ _ h => h))
    clear hs23
    go_wp2
    go_ret
    exact ⟨rfl, HS1.out.to_below (Nat.le_refl _) (fun _ _ => id)⟩
  | true =>
    obtain ⟨n, rfl, hform⟩ := frm_true hfr
    have HFM := Lib.hid ((frm_one n Aa Ca wsa).trans hfr)
    by_cases h0 : v < 0
    · clear hfr hform
      go_enter Try.func10, Try.ntmps10
      go_upto_region 1 with fail
      refine wp_world fun w1 hw1 => ?_
      have hs1 : Same w w1 := by rw [hw1]; exact (Frm.refl _ _).alloc _
      have hBXa : Blk w1 (w.heap.size) 24 #[.int .i64 n, .slice Aa wsa.length Ca] := by
        rw [hw1]
        have := (Blk.new w 24 #[.int .i64 n, .slice Aa wsa.length Ca])
        simpa using this
      clear hw1
      have cXa0 : w1.cell? ⟨w.heap.size, 0, none⟩ = some (.int .i64 n) := hBXa.cell 0
      have cXa1 : w1.cell? ⟨w.heap.size, 1, none⟩ = some (.slice Aa wsa.length Ca) := hBXa.cell 1
      have lXa := hBXa.lt
      have fXa0 := hBXa.free 0
      have fXa1 := hBXa.free 1
      have HBXa := Lib.hid hBXa
      have HS1 := Lib.hid hs1
      clear hs1 hBXa
      go_wp2_with (fail)
      refine (awake_any w1).mono ?_
      rintro e w2a ⟨rfl, hs13⟩
      replace HBXa := Lib.hid (HBXa.out.frm hs13 id)
      replace cXa0 : w2a.cell? ⟨w.heap.size, 0, none⟩ = some (.int .i64 n) := HBXa.out.cell 0
      replace cXa1 : w2a.cell? ⟨w.heap.size, 1, none⟩ = some (.slice Aa wsa.length Ca) := HBXa.out.cell 1
      replace lXa := HBXa.out.lt
      replace fXa0 := HBXa.out.free 0
      replace fXa1 := HBXa.out.free 1
      replace HS1 := Lib.hid (HS1.out.trans hs13 (fun _ _ h => h))
      clear hs13
      have HOKa := Lib.hid (H.out.ok.same HS1.out)
      go_wp2_with (fail)
      refine call_world fun w2 hw2 => ?_
      have hs2 : Same w2a w2 := by rw [hw2]; exact (Frm.refl _ _).alloc _
      have hBL : Blk w2 w2a.heap.size 24 #[.int .i64 n, .slice Aa wsa.length Ca] := by rw [hw2]; exact Blk.new _ _ _
      have htbs : Tbs w2 w2a.heap.size [⟨n, Aa, Ca, wsa⟩] := by
        intro i t hi
        match i, hi with
        | 0, hi =>
          simp only [List.getElem?_cons_zero, Option.some.injEq] at hi
          subst hi
          exact ⟨hBL.lt, hBL.cell 0, hBL.cell 1⟩
        | i + 1, hi => simp at hi
      have hfc := good_any w2a.heap.size 1 1 [⟨n, Aa, Ca, wsa⟩] w2 rfl (by decide) htbs (fun t ht => by
        simp only [List.mem_cons, List.not_mem_nil, or_false] at ht
        rcases ht with rfl
        · exact (HOKa.out).same hs2)
      rw [HFM.out] at hfc
      refine hfc.mono ?_
      clear hfc htbs hBL hw2
      rintro e w3 ⟨rfl, hs3⟩
      have hs23 : Same w2a w3 := hs2.trans hs3 (fun _ _ h => h)
      clear hs2 hs3
      replace HBXa := Lib.hid (HBXa.out.frm hs23 id)
      replace cXa0 : w3.cell? ⟨w.heap.size, 0, none⟩ = some (.int .i64 n) := HBXa.out.cell 0
      replace cXa1 : w3.cell? ⟨w.heap.size, 1, none⟩ = some (.slice Aa wsa.length Ca) := HBXa.out.cell 1
      replace lXa := HBXa.out.lt
      replace fXa0 := HBXa.out.free 0
      replace fXa1 := HBXa.out.free 1
      replace HS1 := Lib.hid (HS1.out.trans hs23 (fun _ _ h => h))
      clear hs23
      go_wp2
      go_ret
      exact ⟨rfl, HS1.out.to_below (Nat.le_refl _) (fun _ _ => id)⟩
    by_cases h1 : v ≥ (n : Int)
    · clear hfr hform
      go_enter Try.func10, Try.ntmps10
      go_upto_region 1 with fail
      refine wp_world fun w1 hw1 => ?_
      have hs1 : Same w w1 := by rw [hw1]; exact (Frm.refl _ _).alloc _
      have hBXa : Blk w1 (w.heap.size) 24 #[.int .i64 n, .slice Aa wsa.length Ca] := by
        rw [hw1]
        have := (Blk.new w 24 #[.int .i64 n, .slice Aa wsa.length Ca])
        simpa using this
      clear hw1
      have cXa0 : w1.cell? ⟨w.heap.size, 0, none⟩ = some (.int .i64 n) := hBXa.cell 0
      have cXa1 : w1.cell? ⟨w.heap.size, 1, none⟩ = some (.slice Aa wsa.length Ca) := hBXa.cell 1
      have lXa := hBXa.lt
      have fXa0 := hBXa.free 0
      have fXa1 := hBXa.free 1
      have HBXa := Lib.hid hBXa
      have HS1 := Lib.hid hs1
      clear hs1 hBXa
      go_wp2_with (fail)
      refine (awake_any w1).mono ?_
      rintro e w2a ⟨rfl, hs13⟩
      replace HBXa := Lib.hid (HBXa.out.frm hs13 id)
      replace cXa0 : w2a.cell? ⟨w.heap.size, 0, none⟩ = some (.int .i64 n) := HBXa.out.cell 0
      replace cXa1 : w2a.cell? ⟨w.heap.size, 1, none⟩ = some (.slice Aa wsa.length Ca) := HBXa.out.cell 1
      replace lXa := HBXa.out.lt
      replace fXa0 := HBXa.out.free 0
      replace fXa1 := HBXa.out.free 1
      replace HS1 := Lib.hid (HS1.out.trans hs13 (fun _ _ h => h))
      clear hs13
      have HOKa := Lib.hid (H.out.ok.same HS1.out)
      go_wp2_with (fail)
      refine call_world fun w2 hw2 => ?_
      have hs2 : Same w2a w2 := by rw [hw2]; exact (Frm.refl _ _).alloc _
      have hBL : Blk w2 w2a.heap.size 24 #[.int .i64 n, .slice Aa wsa.length Ca] := by rw [hw2]; exact Blk.new _ _ _
      have htbs : Tbs w2 w2a.heap.size [⟨n, Aa, Ca, wsa⟩] := by
        intro i t hi
        match i, hi with
        | 0, hi =>
          simp only [List.getElem?_cons_zero, Option.some.injEq] at hi
          subst hi
          exact ⟨hBL.lt, hBL.cell 0, hBL.cell 1⟩
        | i + 1, hi => simp at hi
      have hfc := good_any w2a.heap.size 1 1 [⟨n, Aa, Ca, wsa⟩] w2 rfl (by decide) htbs (fun t ht => by
        simp only [List.mem_cons, List.not_mem_nil, or_false] at ht
        rcases ht with rfl
        · exact (HOKa.out).same hs2)
      rw [HFM.out] at hfc
      refine hfc.mono ?_
      clear hfc htbs hBL hw2
      rintro e w3 ⟨rfl, hs3⟩
      have hs23 : Same w2a w3 := hs2.trans hs3 (fun _ _ h => h)
      clear hs2 hs3
      replace HBXa := Lib.hid (HBXa.out.frm hs23 id)
      replace cXa0 : w3.cell? ⟨w.heap.size, 0, none⟩ = some (.int .i64 n) := HBXa.out.cell 0
      replace cXa1 : w3.cell? ⟨w.heap.size, 1, none⟩ = some (.slice Aa wsa.length Ca) := HBXa.out.cell 1
      replace lXa := HBXa.out.lt
      replace fXa0 := HBXa.out.free 0
      replace fXa1 := HBXa.out.free 1
      replace HS1 := Lib.hid (HS1.out.trans hs23 (fun _ _ h => h))
      clear hs23
      go_wp2
      go_ret
      exact ⟨rfl, HS1.out.to_below (Nat.le_refl _) (fun _ _ => id)⟩
    obtain ⟨V, rfl⟩ : ∃ V : Nat, v = V := ⟨v.toNat, by omega⟩
    have hV : V < n := by omega
    have hn := hform.n16
    have hsm := H.out.ok.small
    simp only at hsm
    have hoe : ofE n V wsa = 0 := by unfold ofE; rw [hfr, if_pos rfl, if_neg (by omega)]
    have hve : varE n V = 0 := by unfold varE; rw [show cntE n = 0 by unfold cntE; rw [if_neg (by omega), if_neg (by omega)], if_neg (by simp), if_neg (by omega)]
    have hC := fun b w h => Cofactor_any n Aa Ca wsa V b w h
    have hE := fun w h => Exists_any n Aa Ca wsa V w h
    have hX := fun w => Var_any n V w
    have hI := fun A1 C1 A2 C2 A3 C3 w h1 h2 h3 => Ite_any n A1 C1 (tab n (varF V)) n A2 C2 (tab n (hfF V true wsa)) n A3 C3 (tab n (hfF V false wsa)) w h1 h2 h3
    have hft : ∀ (F : Nat → Bool), frm n (tab n F) = true := fun F => frm_nat.2 (tab_form hn)
    simp only [hoe] at hC
    rw [hoe] at hE
    rw [hve] at hX
    have hfm : ∀ (A1 A2 A3 : Option Addr) (C1 C2 C3 : Nat), fm [⟨n, A1, C1, tab n (varF V)⟩, ⟨n, A2, C2, tab n (hfF V true wsa)⟩, ⟨n, A3, C3, tab n (hfF V false wsa)⟩] = true := fun _ _ _ _ _ _ => by simp [fm, Tb.frm, hft]
    simp only [hfm, show fmE true = 0 from rfl] at hI
    unfold RetA at hC hE hX hI
    have hCt := hC true
    have hCf := hC false
    rw [show ansN n 0 = n from rfl] at hE hX
    simp only [show ansN n 0 = n from rfl] at hCt hCf hI
    rw [show ansL (tab (n : Int).toNat (exF (V : Int).toNat wsa)) 0 = tab n (exF V wsa) from rfl] at hE
    rw [show ansL (tab (n : Int).toNat (varF (V : Int).toNat)) 0 = tab n (varF V) from rfl] at hX
    simp only [show ansL (tab (n : Int).toNat (hfF (V : Int).toNat true wsa)) 0 = tab n (hfF V true wsa) from rfl] at hCt
    simp only [show ansL (tab (n : Int).toNat (hfF (V : Int).toNat false wsa)) 0 = tab n (hfF V false wsa) from rfl] at hCf
    simp only [show ansL (tab (n : Int).toNat (iteF (tab n (varF V)) (tab n (hfF V true wsa)) (tab n (hfF V false wsa)))) 0 = tab n (iteF (tab n (varF V)) (tab n (hfF V true wsa)) (tab n (hfF V false wsa))) from rfl, shan_ite hform hsm] at hI
    have hT2 := fun A1 C1 A2 C2 w h1 h2 => twoT_any n 14 A1 C1 (tab n (hfF V true wsa)) A2 C2 (tab n (hfF V false wsa)) w (by omega) h1 (tab_form hn) h2 (tab_form hn)
    simp only [shan_or] at hT2
    have hSa := fun A C w h => Support_any n A C wsa w h
    have hSo := fun A C w h => Support_any n A C (tab n (hfF V true wsa)) w h
    have hSe := fun A C w h => Support_any n A C (tab n (exF V wsa)) w h
    have hNa := fun A C w h => Count_any n A C wsa w h
    have hNo := fun A C w h => Count_any n A C (tab n (hfF V true wsa)) w h
    have hNz := fun A C w h => Count_any n A C (tab n (hfF V false wsa)) w h
    rw [hfr] at hSa hNa
    rw [hft] at hSo hSe hNo hNz
    rw [if_pos rfl] at hNa hNo hNz
    rw [show fmE true = 0 from rfl] at hSa hSo hSe hNa hNo hNz
    have es : supN n wsa = bsum (depB n wsa) n := by unfold supN; rw [hfr, if_pos rfl]; rfl
    have eo : supN n (tab n (hfF V true wsa)) = bsum (depB n (tab n (hfF V true wsa))) n := by unfold supN; rw [hft, if_pos rfl]; rfl
    have ee : supN n (tab n (exF V wsa)) = bsum (depB n (tab n (exF V wsa))) n := by unfold supN; rw [hft, if_pos rfl]; rfl
    have hcnt := shan_cnt (ws := wsa) hV
    rw [← popS_form (tab_form (F := hfF V true wsa) hn), ← popS_form (tab_form (F := hfF V false wsa) hn), ← popS_form hform] at hcnt
    have hm1 := mask_sub (F := depB n (tab n (hfF V true wsa))) (G := depB n wsa) (n := n) (V := V) (by omega) (fun u hu h => dep_cof hV hu h)
    have hm2 := mask_sub (F := depB n (tab n (exF V wsa))) (G := depB n wsa) (n := n) (V := V) (by omega) (fun u hu h => dep_ex hV hu h)
    rw [← es, ← eo] at hm1
    rw [← es, ← ee] at hm2
    have hsb : (supN n wsa).testBit V = !sm n n (tab n (hfF V true wsa)) (tab n (hfF V false wsa)) := by rw [es]; exact sup_bit hV
    have ls : supN n wsa < 18446744073709551616 := by rw [es]; exact Nat.lt_of_lt_of_le (bsum_lt _ n) (show 2 ^ n ≤ 2 ^ 64 from Nat.pow_le_pow_right (by omega) (by omega))
    have lo : supN n (tab n (hfF V true wsa)) < 18446744073709551616 := by rw [eo]; exact Nat.lt_of_lt_of_le (bsum_lt _ n) (show 2 ^ n ≤ 2 ^ 64 from Nat.pow_le_pow_right (by omega) (by omega))
    have le : supN n (tab n (exF V wsa)) < 18446744073709551616 := by rw [ee]; exact Nat.lt_of_lt_of_le (bsum_lt _ n) (show 2 ^ n ≤ 2 ^ 64 from Nat.pow_le_pow_right (by omega) (by omega))
    have lc : popS wsa wsa.length ≤ 65536 := by rw [popS_form hform]; exact Nat.le_trans (cntB_le _ _) (pow_le16 hn)
    have hwx := tab_small n (varF V)
    have hwo := tab_small n (hfF V true wsa)
    have hwz := tab_small n (hfF V false wsa)
    have hwe := tab_small n (exF V wsa)
    have llx := tab_len_le (F := varF V) hn
    have llo := tab_len_le (F := hfF V true wsa) hn
    have lle := tab_len_le (F := exF V wsa) hn
    have lla : wsa.length ≤ 1000000000000000000 := by rw [hform.len]; have := nw_le hn; omega
    have hSM := fun A1 C1 A2 C2 w h1 h2 => same_any n A1 wsa.length C1 wsa n A2 wsa.length C2 wsa w h1 h2 lla
    have hSN := fun A1 C1 A2 C2 w h1 h2 => same_any n A1 (tab n (exF V wsa)).length C1 (tab n (exF V wsa)) n A2 (tab n (exF V wsa)).length C2 (tab n (exF V wsa)) w h1 h2 lle
    have hSO := fun A1 C1 A2 C2 w h1 h2 => same_any n A1 (tab n (hfF V true wsa)).length C1 (tab n (hfF V true wsa)) n A2 (tab n (hfF V false wsa)).length C2 (tab n (hfF V false wsa)) w h1 h2 llo
    simp only [sm_self] at hSM hSN
    have hp15 : 2 ^ V ≤ 2 ^ 15 := Nat.pow_le_pow_right (by omega) (by omega)
    rw [Nat.mod_eq_of_lt (show 2 ^ V < 18446744073709551616 by omega)] at hm1 hm2
    have hdv : ((supN n wsa : Nat) : Int) / 2 ^ V = ((supN n wsa / 2 ^ V : Nat) : Int) := by rw [pow_int]; exact (Int.natCast_ediv _ _).symm
    have hbit := and1_bit (supN n wsa) V ls
    rw [hsb] at hbit
    have hdl : supN n wsa / 2 ^ V ≤ supN n wsa := Nat.div_le_self _ _
    have hxr := xor_not (x := 2 ^ V) (by omega)
    unfold notN at hxr
    have hsw : IntKind.u64.wrap ((2 : Int) ^ V) = ((2 ^ V : Nat) : Int) := by
      rw [pow_int]
      generalize 2 ^ V = p at hp15
      exact IntWalk.u64_in _ (by omega)
    rw [← pow_int] at hxr
    obtain ⟨rest, hrest⟩ : ∃ r, 18446744073709551615 - 2 ^ V = r := ⟨_, rfl⟩
    rw [hrest] at hm1 hm2 hxr
    have hrl : rest < 18446744073709551616 := by rw [← hrest]; exact Nat.lt_of_le_of_lt (Nat.sub_le _ _) (by decide)
    generalize tab n (hfF V true wsa) = wo at *
    generalize tab n (hfF V false wsa) = wz at *
    generalize tab n (exF V wsa) = we at *
    generalize tab n (varF V) = wx at *
    generalize popS wsa wsa.length = pa at *
    generalize popS wo wo.length = po at *
    generalize popS wz wz.length = pz at *
    generalize supN n wsa = sa at *
    generalize supN n wo = so at *
    generalize supN n we = se at *
    have u1 := u64_and_nat sa rest ls hrl
    have hal : sa &&& rest < 18446744073709551616 := Nat.lt_of_le_of_lt Nat.and_le_left ls
    have u2 := u64_andNot_nat so (sa &&& rest) lo hal
    have u3 := u64_andNot_nat se (sa &&& rest) le hal
    rw [hm1] at u2
    rw [hm2] at u3
    rw [show (((0 : Nat)) : Int) = 0 from rfl] at u2 u3
    have q1 : IntKind.u64.wrap (2 * (pa : Int)) = ((2 * pa : Nat) : Int) := by rw [IntWalk.u64_in _ (by omega)]; simp
    have q2 : IntKind.u64.wrap ((po : Int) + pz) = ((2 * pa : Nat) : Int) := by rw [IntWalk.u64_in _ (by omega), ← hcnt]; simp
    generalize sa &&& rest = sr at *
    generalize sa / 2 ^ V = sq at *
    obtain ⟨rs, hrs⟩ : ∃ r, sm n n wo wz = r := ⟨_, rfl⟩
    have hSO2 := hSO
    simp only [hrs] at hSO2
    rw [hrs] at hbit
    have HBT := Lib.hid hbit
    have hn0 : (0 : Int) ≤ n := by omega
    have hV0 : (0 : Int) ≤ V := by omega
    have hVm : min V 64 = V := by omega
    have HCT := Lib.hid hCt
    have HCF := Lib.hid hCf
    have HE := Lib.hid hE
    have HX := Lib.hid hX
    have HI := Lib.hid hI
    have HT2 := Lib.hid hT2
    have HSA := Lib.hid hSa
    have HSO := Lib.hid hSo
    have HSE := Lib.hid hSe
    have HNA := Lib.hid hNa
    have HNO := Lib.hid hNo
    have HNZ := Lib.hid hNz
    have HSM := Lib.hid hSM
    have HSN := Lib.hid hSN
    have HSO2 := Lib.hid hSO2
    have HWX := Lib.hid hwx
    have HWO := Lib.hid hwo
    have HWZ := Lib.hid hwz
    have HWE := Lib.hid hwe
    have HU := Lib.hid (And.intro hdv (And.intro hxr (And.intro hsw (And.intro u1 (And.intro u2 (And.intro u3 (And.intro q1 q2)))))))
    clear hfr hform hsm hoe hve hC hCt hCf hE hX hI hft hfm hT2 hSa hSo hSe hNa hNo hNz es eo ee hcnt hm1 hm2 hsb ls lo le lc hwx hwo hwz hwe llx llo lle lla hSM hSN hSO hSO2 hp15 hdv hbit hdl hxr hsw hrest hrl u1 u2 u3 hal q1 q2 hrs hn
    go_enter Try.func10, Try.ntmps10
    go_upto_region 1 with fail
    refine wp_world fun w1 hw1 => ?_
    have hs1 : Same w w1 := by rw [hw1]; exact (Frm.refl _ _).alloc _
    have hBXa : Blk w1 (w.heap.size) 24 #[.int .i64 n, .slice Aa wsa.length Ca] := by
      rw [hw1]
      have := (Blk.new w 24 #[.int .i64 n, .slice Aa wsa.length Ca])
      simpa using this
    clear hw1
    have cXa0 : w1.cell? ⟨w.heap.size, 0, none⟩ = some (.int .i64 n) := hBXa.cell 0
    have cXa1 : w1.cell? ⟨w.heap.size, 1, none⟩ = some (.slice Aa wsa.length Ca) := hBXa.cell 1
    have lXa := hBXa.lt
    have fXa0 := hBXa.free 0
    have fXa1 := hBXa.free 1
    have HBXa := Lib.hid hBXa
    have HS1 := Lib.hid hs1
    clear hs1 hBXa
    go_wp2_with (fail)
    refine (awake_any w1).mono ?_
    rintro e w2a ⟨rfl, hs13⟩
    replace HBXa := Lib.hid (HBXa.out.frm hs13 id)
    replace cXa0 : w2a.cell? ⟨w.heap.size, 0, none⟩ = some (.int .i64 n) := HBXa.out.cell 0
    replace cXa1 : w2a.cell? ⟨w.heap.size, 1, none⟩ = some (.slice Aa wsa.length Ca) := HBXa.out.cell 1
    replace lXa := HBXa.out.lt
    replace fXa0 := HBXa.out.free 0
    replace fXa1 := HBXa.out.free 1
    replace HS1 := Lib.hid (HS1.out.trans hs13 (fun _ _ h => h))
    clear hs13
    have HOKa := Lib.hid (H.out.ok.same HS1.out)
    go_wp2_with (fail)
    refine call_world fun w2 hw2 => ?_
    have hs2 : Same w2a w2 := by rw [hw2]; exact (Frm.refl _ _).alloc _
    have hBL : Blk w2 w2a.heap.size 24 #[.int .i64 n, .slice Aa wsa.length Ca] := by rw [hw2]; exact Blk.new _ _ _
    have htbs : Tbs w2 w2a.heap.size [⟨n, Aa, Ca, wsa⟩] := by
      intro i t hi
      match i, hi with
      | 0, hi =>
        simp only [List.getElem?_cons_zero, Option.some.injEq] at hi
        subst hi
        exact ⟨hBL.lt, hBL.cell 0, hBL.cell 1⟩
      | i + 1, hi => simp at hi
    have hfc := good_any w2a.heap.size 1 1 [⟨n, Aa, Ca, wsa⟩] w2 rfl (by decide) htbs (fun t ht => by
      simp only [List.mem_cons, List.not_mem_nil, or_false] at ht
      rcases ht with rfl
      · exact (HOKa.out).same hs2)
    rw [HFM.out] at hfc
    refine hfc.mono ?_
    clear hfc htbs hBL hw2
    rintro e w3 ⟨rfl, hs3⟩
    have hs23 : Same w2a w3 := hs2.trans hs3 (fun _ _ h => h)
    clear hs2 hs3
    replace HBXa := Lib.hid (HBXa.out.frm hs23 id)
    replace cXa0 : w3.cell? ⟨w.heap.size, 0, none⟩ = some (.int .i64 n) := HBXa.out.cell 0
    replace cXa1 : w3.cell? ⟨w.heap.size, 1, none⟩ = some (.slice Aa wsa.length Ca) := HBXa.out.cell 1
    replace lXa := HBXa.out.lt
    replace fXa0 := HBXa.out.free 0
    replace fXa1 := HBXa.out.free 1
    replace HS1 := Lib.hid (HS1.out.trans hs23 (fun _ _ h => h))
    clear hs23
    have hqX : Tv w3 w.heap.size n Aa Ca wsa := ⟨HBXa.out, Sl.same H.out.ok.wl HS1.out⟩
    clear cXa0 cXa1 fXa0 fXa1 lXa HBXa
    have cX0 : w3.cell? ⟨w.heap.size, 0, none⟩ = some (.int .i64 n) := hqX.blk.cell 0
    have cX1 : w3.cell? ⟨w.heap.size, 1, none⟩ = some (.slice Aa wsa.length Ca) := hqX.blk.cell 1
    have lX := hqX.blk.lt
    go_wp2_with (fail)
    refine (HCT.out w3 (H.out.ok.same HS1.out)).mono ?_
    rintro e wa1 ⟨Ao, Co, rfl, hN⟩
    have hs := hN.2.2
    have ho := hN.1.sl ucell_len
    clear hN
    replace HS1 := Lib.hid (HS1.out.trans hs (fun _ _ h => h))
    replace hqX := hqX.same hs
    clear hs
    clear cX0 cX1 lX
    have cX0 : wa1.cell? ⟨w.heap.size, 0, none⟩ = some (.int .i64 n) := hqX.blk.cell 0
    have cX1 : wa1.cell? ⟨w.heap.size, 1, none⟩ = some (.slice Aa wsa.length Ca) := hqX.blk.cell 1
    have lX := hqX.blk.lt
    go_wp2_with (fail)
    refine call_world fun wb1 hwb1 => ?_
    obtain ⟨hqn, hsv⟩ := Tv.make ho hwb1
    clear cX0 cX1 lX
    replace HS1 := Lib.hid (HS1.out.trans hsv (fun _ _ h => h))
    replace hqX := hqX.same hsv
    obtain ⟨To, hTe⟩ : ∃ b, wa1.heap.size = b := ⟨_, rfl⟩
    rw [hTe] at hqn ⊢
    have hqo := hqn
    clear hqn hwb1 hsv hTe ho
    refine (HCF.out wb1 (H.out.ok.same HS1.out)).mono ?_
    rintro e wa2 ⟨Az, Cz, rfl, hN⟩
    have hs := hN.2.2
    have ho := hN.1.sl ucell_len
    clear hN
    replace HS1 := Lib.hid (HS1.out.trans hs (fun _ _ h => h))
    replace hqX := hqX.same hs
    replace hqo := hqo.same hs
    clear hs
    have cX0 : wa2.cell? ⟨w.heap.size, 0, none⟩ = some (.int .i64 n) := hqX.blk.cell 0
    have cX1 : wa2.cell? ⟨w.heap.size, 1, none⟩ = some (.slice Aa wsa.length Ca) := hqX.blk.cell 1
    have lX := hqX.blk.lt
    go_wp2_with (fail)
    refine call_world fun wb2 hwb2 => ?_
    obtain ⟨hqn, hsv⟩ := Tv.make ho hwb2
    clear cX0 cX1 lX
    replace HS1 := Lib.hid (HS1.out.trans hsv (fun _ _ h => h))
    replace hqX := hqX.same hsv
    replace hqo := hqo.same hsv
    obtain ⟨Tz, hTe⟩ : ∃ b, wa2.heap.size = b := ⟨_, rfl⟩
    rw [hTe] at hqn ⊢
    have hqz := hqn
    clear hqn hwb2 hsv hTe ho
    refine (HX.out wb2).mono ?_
    rintro e wa3 ⟨Ax, Cx, rfl, hN⟩
    have hs := hN.2.2
    have ho := hN.1.sl ucell_len
    clear hN
    replace HS1 := Lib.hid (HS1.out.trans hs (fun _ _ h => h))
    replace hqX := hqX.same hs
    replace hqo := hqo.same hs
    replace hqz := hqz.same hs
    clear hs
    have co0 : wa3.cell? ⟨To, 0, none⟩ = some (.int .i64 n) := hqo.blk.cell 0
    have co1 : wa3.cell? ⟨To, 1, none⟩ = some (.slice Ao wo.length Co) := hqo.blk.cell 1
    have lo := hqo.blk.lt
    have cz0 : wa3.cell? ⟨Tz, 0, none⟩ = some (.int .i64 n) := hqz.blk.cell 0
    have cz1 : wa3.cell? ⟨Tz, 1, none⟩ = some (.slice Az wz.length Cz) := hqz.blk.cell 1
    have lz := hqz.blk.lt
    go_wp2_with (fail)
    refine call_world fun wb3 hwb3 => ?_
    obtain ⟨hqn, hsv⟩ := Tv.make ho hwb3
    clear co0 co1 lo cz0 cz1 lz
    replace HS1 := Lib.hid (HS1.out.trans hsv (fun _ _ h => h))
    replace hqX := hqX.same hsv
    replace hqo := hqo.same hsv
    replace hqz := hqz.same hsv
    obtain ⟨Tx, hTe⟩ : ∃ b, wa3.heap.size = b := ⟨_, rfl⟩
    rw [hTe] at hqn ⊢
    have hqx := hqn
    clear hqn hwb3 hsv hTe ho
    refine (HI.out Ax Cx Ao Co Az Cz wb3 ⟨hqx.wl, HWX.out⟩ ⟨hqo.wl, HWO.out⟩ ⟨hqz.wl, HWZ.out⟩).mono ?_
    rintro e wa4 ⟨Ai, Ci, rfl, hN⟩
    have hs := hN.2.2
    have ho := hN.1.sl ucell_len
    clear hN
    replace HS1 := Lib.hid (HS1.out.trans hs (fun _ _ h => h))
    replace hqX := hqX.same hs
    replace hqo := hqo.same hs
    replace hqz := hqz.same hs
    replace hqx := hqx.same hs
    clear hs
    have cX0 : wa4.cell? ⟨w.heap.size, 0, none⟩ = some (.int .i64 n) := hqX.blk.cell 0
    have cX1 : wa4.cell? ⟨w.heap.size, 1, none⟩ = some (.slice Aa wsa.length Ca) := hqX.blk.cell 1
    have lX := hqX.blk.lt
    go_wp2_with (fail)
    refine call_world fun wb4 hwb4 => ?_
    obtain ⟨hqn, hsv⟩ := Tv.make ho hwb4
    clear cX0 cX1 lX
    replace HS1 := Lib.hid (HS1.out.trans hsv (fun _ _ h => h))
    replace hqX := hqX.same hsv
    replace hqo := hqo.same hsv
    replace hqz := hqz.same hsv
    replace hqx := hqx.same hsv
    obtain ⟨Ti, hTe⟩ : ∃ b, wa4.heap.size = b := ⟨_, rfl⟩
    rw [hTe] at hqn ⊢
    have hqi := hqn
    clear hqn hwb4 hsv hTe ho
    refine (HE.out wb4 (H.out.ok.same HS1.out)).mono ?_
    rintro e wa5 ⟨Ae, Ce, rfl, hN⟩
    have hs := hN.2.2
    have ho := hN.1.sl ucell_len
    clear hN
    replace HS1 := Lib.hid (HS1.out.trans hs (fun _ _ h => h))
    replace hqX := hqX.same hs
    replace hqo := hqo.same hs
    replace hqz := hqz.same hs
    replace hqx := hqx.same hs
    replace hqi := hqi.same hs
    clear hs
    go_upto_region 10 with fail
    refine wp_world fun wb5 hwb5 => ?_
    obtain ⟨hqn, hsv⟩ := Tv.make ho hwb5
    replace HS1 := Lib.hid (HS1.out.trans hsv (fun _ _ h => h))
    replace hqX := hqX.same hsv
    replace hqo := hqo.same hsv
    replace hqz := hqz.same hsv
    replace hqx := hqx.same hsv
    replace hqi := hqi.same hsv
    obtain ⟨Te, hTe⟩ : ∃ b, wa5.heap.size = b := ⟨_, rfl⟩
    rw [hTe] at hqn ⊢
    have hqe := hqn
    clear hqn hwb5 hsv hTe ho
    refine wp_phS (fun _ => False) [([0, 1, 2, 3, 4, 5, 6, 7, 8, 9, 10, 11, 12, 13, 14, 15, 16, 17, 18, 19, 20], 21), ([22, 23, 24, 25, 26, 27], 28), ([], 29), ([30], 31)] (by kernel_rfl) (by kernel_rfl) ?_
    simp only [wpPh, pick, List.map_cons, List.map_nil, List.getD_cons_zero, List.getD_cons_succ]
    have cX0 : wb5.cell? ⟨w.heap.size, 0, none⟩ = some (.int .i64 n) := hqX.blk.cell 0
    have cX1 : wb5.cell? ⟨w.heap.size, 1, none⟩ = some (.slice Aa wsa.length Ca) := hqX.blk.cell 1
    have lX := hqX.blk.lt
    have co0 : wb5.cell? ⟨To, 0, none⟩ = some (.int .i64 n) := hqo.blk.cell 0
    have co1 : wb5.cell? ⟨To, 1, none⟩ = some (.slice Ao wo.length Co) := hqo.blk.cell 1
    have lo := hqo.blk.lt
    have cz0 : wb5.cell? ⟨Tz, 0, none⟩ = some (.int .i64 n) := hqz.blk.cell 0
    have cz1 : wb5.cell? ⟨Tz, 1, none⟩ = some (.slice Az wz.length Cz) := hqz.blk.cell 1
    have lz := hqz.blk.lt
    have ci0 : wb5.cell? ⟨Ti, 0, none⟩ = some (.int .i64 n) := hqi.blk.cell 0
    have ci1 : wb5.cell? ⟨Ti, 1, none⟩ = some (.slice Ai wsa.length Ci) := hqi.blk.cell 1
    have li := hqi.blk.lt
    have ce0 : wb5.cell? ⟨Te, 0, none⟩ = some (.int .i64 n) := hqe.blk.cell 0
    have ce1 : wb5.cell? ⟨Te, 1, none⟩ = some (.slice Ae we.length Ce) := hqe.blk.cell 1
    have le := hqe.blk.lt
    have hs : Same wb5 wb5.drew := (Frm.refl _ _).drew
    repeat (any_goals (first | go_big_quiet_step (fail) | quiet_step (fail)))
    refine wpQuiet_nil ?_
    refine effStep_on (by rfl) fun K hK => ?_
    go_simp
    refine (HSM.out Ai Ci Aa Ca _ (hqi.same hs).wl (hqX.same hs).wl).mono ?_
    rintro e u ⟨rfl, hsz⟩
    have hs := hs.trans hsz (fun _ _ h => h)
    refine hK _ _ (Lat.mk_ (Frm.mono hs (fun _ _ h => h.elim))) ?_
    clear hK K
    clear hsz
    repeat (any_goals (first | go_big_quiet_step (fail) | quiet_step (fail)))
    refine wpQuiet_nil ?_
    refine effStep_on (by rfl) fun K hK => ?_
    go_simp
    refine (HT2.out Ao Co Az Cz _ ⟨(hqo.same hs).wl, HWO.out⟩ ⟨(hqz.same hs).wl, HWZ.out⟩).mono ?_
    rintro e u ⟨At, Ct, rfl, hN⟩
    have hs := hs.trans hN.2.2 (fun _ _ h => h)
    have hot := hN.1.sl ucell_len
    refine hK _ _ (Lat.mk_ (Frm.mono hs (fun _ _ h => h.elim))) ?_
    clear hK K
    clear hN
    repeat (any_goals (first | go_big_quiet_step (fail) | quiet_step (fail)))
    refine wpQuiet_nil ?_
    refine effStep_on (by rfl) fun K hK => ?_
    go_simp
    refine (HSN.out Ae Ce At Ct _ (hqe.same hs).wl hot).mono ?_
    rintro e u ⟨rfl, hsz⟩
    have hs := hs.trans hsz (fun _ _ h => h)
    refine hK _ _ (Lat.mk_ (Frm.mono hs (fun _ _ h => h.elim))) ?_
    clear hK K
    clear hsz hot
    clear cX0 cX1 lX co0 co1 lo cz0 cz1 lz ci0 ci1 li ce0 ce1 le
    repeat (any_goals (first | go_big_quiet_step (fail) | quiet_step (fail)))
    refine wpQuiet_nil ?_
    replace HS1 := Lib.hid (HS1.out.trans hs (fun _ _ h => h))
    replace hqX := hqX.same hs
    replace hqo := hqo.same hs
    replace hqz := hqz.same hs
    replace hqx := hqx.same hs
    replace hqi := hqi.same hs
    replace hqe := hqe.same hs
    clear hs
    have cX0 : u.cell? ⟨w.heap.size, 0, none⟩ = some (.int .i64 n) := hqX.blk.cell 0
    have cX1 : u.cell? ⟨w.heap.size, 1, none⟩ = some (.slice Aa wsa.length Ca) := hqX.blk.cell 1
    have lX := hqX.blk.lt
    go_wp2_with (fail)
    refine (HSA.out Aa Ca u (H.out.ok.same HS1.out)).mono ?_
    rintro e v1 ⟨rfl, hs⟩
    clear cX0 cX1 lX
    replace HS1 := Lib.hid (HS1.out.trans hs (fun _ _ h => h))
    replace hqX := hqX.same hs
    replace hqo := hqo.same hs
    replace hqz := hqz.same hs
    replace hqx := hqx.same hs
    replace hqi := hqi.same hs
    replace hqe := hqe.same hs
    clear hs
    have co0 : v1.cell? ⟨To, 0, none⟩ = some (.int .i64 n) := hqo.blk.cell 0
    have co1 : v1.cell? ⟨To, 1, none⟩ = some (.slice Ao wo.length Co) := hqo.blk.cell 1
    have lo := hqo.blk.lt
    go_wp2_with (fail)
    refine (HSO.out Ao Co v1 ⟨hqo.wl, HWO.out⟩).mono ?_
    rintro e v2 ⟨rfl, hs⟩
    clear co0 co1 lo
    replace HS1 := Lib.hid (HS1.out.trans hs (fun _ _ h => h))
    replace hqX := hqX.same hs
    replace hqo := hqo.same hs
    replace hqz := hqz.same hs
    replace hqx := hqx.same hs
    replace hqi := hqi.same hs
    replace hqe := hqe.same hs
    clear hs
    have ce0 : v2.cell? ⟨Te, 0, none⟩ = some (.int .i64 n) := hqe.blk.cell 0
    have ce1 : v2.cell? ⟨Te, 1, none⟩ = some (.slice Ae we.length Ce) := hqe.blk.cell 1
    have le := hqe.blk.lt
    go_wp2_with (fail)
    refine (HSE.out Ae Ce v2 ⟨hqe.wl, HWE.out⟩).mono ?_
    rintro e v3 ⟨rfl, hs⟩
    clear ce0 ce1 le
    replace HS1 := Lib.hid (HS1.out.trans hs (fun _ _ h => h))
    replace hqX := hqX.same hs
    replace hqo := hqo.same hs
    replace hqz := hqz.same hs
    replace hqx := hqx.same hs
    replace hqi := hqi.same hs
    replace hqe := hqe.same hs
    clear hs
    have cX0 : v3.cell? ⟨w.heap.size, 0, none⟩ = some (.int .i64 n) := hqX.blk.cell 0
    have cX1 : v3.cell? ⟨w.heap.size, 1, none⟩ = some (.slice Aa wsa.length Ca) := hqX.blk.cell 1
    have lX := hqX.blk.lt
    go_wp2_with (fail)
    refine (HNA.out Aa Ca v3 (H.out.ok.same HS1.out)).mono ?_
    rintro e v4 ⟨rfl, hs⟩
    clear cX0 cX1 lX
    replace HS1 := Lib.hid (HS1.out.trans hs (fun _ _ h => h))
    replace hqX := hqX.same hs
    replace hqo := hqo.same hs
    replace hqz := hqz.same hs
    replace hqx := hqx.same hs
    replace hqi := hqi.same hs
    replace hqe := hqe.same hs
    clear hs
    have co0 : v4.cell? ⟨To, 0, none⟩ = some (.int .i64 n) := hqo.blk.cell 0
    have co1 : v4.cell? ⟨To, 1, none⟩ = some (.slice Ao wo.length Co) := hqo.blk.cell 1
    have lo := hqo.blk.lt
    go_wp2_with (fail)
    refine (HNO.out Ao Co v4 ⟨hqo.wl, HWO.out⟩).mono ?_
    rintro e v5 ⟨rfl, hs⟩
    clear co0 co1 lo
    replace HS1 := Lib.hid (HS1.out.trans hs (fun _ _ h => h))
    replace hqX := hqX.same hs
    replace hqo := hqo.same hs
    replace hqz := hqz.same hs
    replace hqx := hqx.same hs
    replace hqi := hqi.same hs
    replace hqe := hqe.same hs
    clear hs
    have cz0 : v5.cell? ⟨Tz, 0, none⟩ = some (.int .i64 n) := hqz.blk.cell 0
    have cz1 : v5.cell? ⟨Tz, 1, none⟩ = some (.slice Az wz.length Cz) := hqz.blk.cell 1
    have lz := hqz.blk.lt
    go_wp2_with (fail)
    refine (HNZ.out Az Cz v5 ⟨hqz.wl, HWZ.out⟩).mono ?_
    rintro e v6 ⟨rfl, hs⟩
    clear cz0 cz1 lz
    replace HS1 := Lib.hid (HS1.out.trans hs (fun _ _ h => h))
    replace hqX := hqX.same hs
    replace hqo := hqo.same hs
    replace hqz := hqz.same hs
    replace hqx := hqx.same hs
    replace hqi := hqi.same hs
    replace hqe := hqe.same hs
    clear hs
    obtain ⟨hdv, hxr, hsw, u1, u2, u3, q1, q2⟩ := HU.out
    have hsg : ¬ IntKind.u64.signed = true := by decide
    go_upto_region 21 with fail
    have co0 : v6.cell? ⟨To, 0, none⟩ = some (.int .i64 n) := hqo.blk.cell 0
    have co1 : v6.cell? ⟨To, 1, none⟩ = some (.slice Ao wo.length Co) := hqo.blk.cell 1
    have lo := hqo.blk.lt
    have cz0 : v6.cell? ⟨Tz, 0, none⟩ = some (.int .i64 n) := hqz.blk.cell 0
    have cz1 : v6.cell? ⟨Tz, 1, none⟩ = some (.slice Az wz.length Cz) := hqz.blk.cell 1
    have lz := hqz.blk.lt
    have hbit := HBT.out
    refine wp_quiet (by kernel_rfl) (by kernel_rfl) ?_
    repeat (any_goals (first | go_big_quiet_step ((go_at_call 35; exact quiet_call (HSO2.out Ao Co Az Cz _ (Sl.same hqo.wl (more_same _ _)) (Sl.same hqz.wl (more_same _ _))))) | quiet_step ((go_at_call 35; exact quiet_call (HSO2.out Ao Co Az Cz _ (Sl.same hqo.wl (more_same _ _)) (Sl.same hqz.wl (more_same _ _)))))))
    refine wpQuiet_nil ?_
    rintro wy ⟨q, hq⟩
    have hsz : Same v6 wy := by rw [hq]; exact more_same _ q
    clear hq
    go_wp2
    go_ret
    exact ⟨rfl, (HS1.out.trans hsz (fun _ _ h => h)).to_below (Nat.le_refl _) (fun _ _ => id)⟩
end Go.Proofs.Ytlggmoghgoeiiaa
