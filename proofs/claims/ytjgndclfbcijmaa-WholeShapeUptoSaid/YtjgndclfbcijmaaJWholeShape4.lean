/- Contracts and plain laws, put together in one file. No condition. -/
import Derived.Test.YtjgndclfbcijmaaJWholeShape3
import Derived.BigRegion


/- Shape: check, Profile, Size, Level. -/
namespace Go.Proofs.Ytjgndclfbcijmaa
open Go.RowKit Go.Tk Go.Maps

set_option maxHeartbeats 2000000 in
theorem scheck_any (AL : Option Addr) (n C : Nat) (ts : List Tb) (w : World) (h : Sl w 2 Tb.cells AL n ts) (hn1 : n ≤ 1000000000000000000) (hok : ∀ t ∈ ts, TbOk w t) :
    Calls Try.prog 17 #[.slice AL n C] w fun e w' => e = .returned (.bool (fm ts)) ∧ Same w w' := by
  have hn := h.len
  have H := Lib.hid h
  have HOK := Lib.hid hok
  obtain ⟨r, hr⟩ : ∃ r, fm ts = r := ⟨_, rfl⟩
  rw [hr]
  have HR := Lib.hid hr
  have HN := Lib.hid hn
  clear h hok hr hn
  go_enter Try.func17, Try.ntmps17
  go_wp2
  go_loopw [7] (fun i wr => ∃ k : Nat, k ≤ n ∧ i = .int .i64 k ∧ (∀ j t, ts[j]? = some t → j < k → t.frm = true ∧ t.N = (ts.getD 0 ⟨0, none, 0, []⟩).N) ∧ Same w wr) (fun i _ => n - (intOf i).toNat)
  case atStart => exact ⟨0, by omega, rfl, fun j t _ h => by omega, Frm.refl _ _⟩
  case round =>
    obtain ⟨k, hk, rfl, hall, hs⟩ := hrel
    have HALL := Lib.hid hall
    have HS := Lib.hid hs
    by_cases hlt : k < n
    · have hi1 : (k : Int) < n := by omega
      have hi0 : (0 : Int) ≤ k := by omega
      have hn0 : (0 : Int) < n := by omega
      obtain ⟨t, ht⟩ : ∃ t, ts[k]? = some t := ⟨_, List.getElem?_eq_getElem (by rw [← HN.out]; exact hlt)⟩
      obtain ⟨t0, ht0⟩ : ∃ t, ts[0]? = some t := ⟨_, List.getElem?_eq_getElem (by rw [← HN.out]; omega)⟩
      have hd0 : ts.getD 0 ⟨0, none, 0, []⟩ = t0 := by rw [List.getD_eq_getElem?_getD, ht0]; rfl
      obtain ⟨g, o, hA, hg, hc⟩ := (Sl.same H.out hs).get k t ht
      have hc0 : wr.cell? ⟨g, o + k * 2, none⟩ = some (.int .i64 t.N) := hc 0 (by omega)
      have hc1 : wr.cell? ⟨g, o + k * 2 + 1, none⟩ = some (.slice t.A t.ws.length t.C) := hc 1 (by omega)
      obtain ⟨g', o', hA', _, hz⟩ := (Sl.same H.out hs).get 0 t0 ht0
      rw [hA] at hA'
      injection hA' with hA'
      injection hA' with hA1 hA2
      subst hA1 hA2
      have hz0 : wr.cell? ⟨g, o, none⟩ = some (.int .i64 t0.N) := by simpa [Tb.cells] using hz 0 (by omega)
      subst hA
      clear hc hz
      have htok := HOK.out t (List.mem_of_getElem? ht)
      have hne : g ≠ wr.heap.size := by omega
      have HT := Lib.hid ht
      have HD0 := Lib.hid hd0
      clear ht ht0 hd0 hall hs
      obtain ⟨tN, tA, tC, tws⟩ := t
      obtain ⟨zN, zA, zC, zws⟩ := t0
      simp only at hc0 hc1 hz0
      have HTOK := Lib.hid htok
      clear htok
      have hbx : ∃ b, (Tb.mk tN tA tC tws).frm = b := ⟨_, rfl⟩
      obtain ⟨bb, hbb⟩ := hbx
      go_upto_region 4 with fail
      refine wp_world fun wa hwa => ?_
      have hsa : Same wr wa := by rw [hwa]; exact (Frm.refl _ _).alloc _
      have hB := Blk.new wr 30 #[.int .i64 tN, .slice tA tws.length tC]
      rw [← hwa] at hB
      have hb0 : wa.cell? ⟨wr.heap.size, 0, none⟩ = some (.int .i64 tN) := hB.cell 0
      have hb1 : wa.cell? ⟨wr.heap.size, 1, none⟩ = some (.slice tA tws.length tC) := hB.cell 1
      have hbl := hB.lt
      have hza : wa.cell? ⟨g, o, none⟩ = some (.int .i64 zN) := (hsa.cell (p := ⟨g, o, none⟩) hg id).trans hz0
      have hga : g < wa.heap.size := by omega
      have hfc : ∀ w', Same wa w' → Calls Try.prog 26 #[.agg #[.int .i64 tN, .slice tA tws.length tC]] w' fun e w'' => e = .returned (.bool bb) ∧ Same w' w'' := fun w' hs' => by
        have := HTOK.out.form ((HS.out.trans hsa (fun _ _ h => h)).trans hs' (fun _ _ h => h))
        rw [hbb] at this
        exact this
      have HFC := Lib.hid hfc
      have HSA := Lib.hid (HS.out.trans hsa (fun _ _ h => h))
      have HBB := Lib.hid hbb
      clear hwa hsa hB hc0 hc1 hz0 hg hfc HTOK hbb
      cases bb with
      | false =>
        have hf : r = false := by
          rw [← HR.out]
          unfold fm
          rw [List.all_eq_false]
          exact ⟨_, List.mem_of_getElem? HT.out, by simp [HBB.out]⟩
        subst hf
        refine wp_quiet (by kernel_rfl) (by kernel_rfl) ?_
        repeat (any_goals (first | go_big_quiet_step ((go_at_call 26; exact quiet_call (HFC.out _ (more_same _ _)))) | quiet_step ((go_at_call 26; exact quiet_call (HFC.out _ (more_same _ _))))))
        refine wpQuiet_nil ?_
        rintro _ ⟨q, rfl⟩
        go_wp2
        go_ret
        exact ⟨rfl, HSA.out.trans (more_same _ q) (fun _ _ h => h)⟩
      | true =>
        by_cases hNN : tN = zN
        · subst hNN
          refine wp_quiet (by kernel_rfl) (by kernel_rfl) ?_
          repeat (any_goals (first | go_big_quiet_step ((go_at_call 26; exact quiet_call (HFC.out _ (more_same _ _)))) | quiet_step ((go_at_call 26; exact quiet_call (HFC.out _ (more_same _ _))))))
          refine wpQuiet_nil ?_
          rintro _ ⟨q, rfl⟩
          go_wp2
          go_roundw
          case rel => exact ⟨k + 1, by omega, by go_num, fun j t hj hjk => by
            by_cases hjk2 : j < k
            · exact HALL.out j t hj hjk2
            · obtain rfl : j = k := by omega
              obtain rfl := Option.some.inj (hj.symm.trans HT.out)
              exact ⟨HBB.out, by rw [HD0.out]⟩, HSA.out.trans (more_same _ q) (fun _ _ h => h)⟩
          case measure => simp [intOf] <;> omega
        · have hne2 : (tN != zN) = true := by simpa using hNN
          have hf : r = false := by
            rw [← HR.out]
            unfold fm
            rw [List.all_eq_false]
            exact ⟨_, List.mem_of_getElem? HT.out, by rw [HD0.out]; simp [hNN]⟩
          subst hf
          clear hNN
          refine wp_quiet (by kernel_rfl) (by kernel_rfl) ?_
          repeat (any_goals (first | go_big_quiet_step ((go_at_call 26; exact quiet_call (HFC.out _ (more_same _ _)))) | quiet_step ((go_at_call 26; exact quiet_call (HFC.out _ (more_same _ _))))))
          refine wpQuiet_nil ?_
          rintro _ ⟨q, rfl⟩
          go_wp2
          go_ret
          exact ⟨rfl, HSA.out.trans (more_same _ q) (fun _ _ h => h)⟩
    · obtain rfl : k = n := by omega
      have hf : r = true := by
        rw [← HR.out]
        unfold fm
        rw [List.all_eq_true]
        intro t ht
        obtain ⟨j, hj⟩ := List.getElem?_of_mem ht
        have := HALL.out j t hj (by rw [HN.out]; exact lt_of_get hj)
        simp [this]
      subst hf
      clear hall hs HALL
      go_wp2
      go_ret
      exact ⟨rfl, HS.out⟩

/-- each once -/
def uniq : List (List Nat) → List (List Nat)
  | [] => []
  | x :: xs => if x ∈ uniq xs then uniq xs else x :: uniq xs
theorem mem_uniq {y : List Nat} : ∀ {xs : List (List Nat)}, y ∈ uniq xs ↔ y ∈ xs
  | [] => Iff.rfl
  | x :: xs => by
    have ih := mem_uniq (y := y) (xs := xs)
    unfold uniq
    split
    · rename_i hx
      rw [ih, List.mem_cons]
      constructor
      · exact .inr
      · rintro (rfl | h)
        · exact mem_uniq.1 hx
        · exact h
    · rw [List.mem_cons, List.mem_cons, ih]
theorem uniq_nodup : ∀ xs : List (List Nat), (uniq xs).Nodup
  | [] => List.nodup_nil
  | x :: xs => by
    unfold uniq
    split
    · exact uniq_nodup xs
    · rename_i hx
      exact List.nodup_cons.2 ⟨hx, uniq_nodup xs⟩
theorem uniq_len : ∀ xs : List (List Nat), (uniq xs).length ≤ xs.length
  | [] => Nat.le_refl _
  | x :: xs => by
    have := uniq_len xs
    unfold uniq
    split
    · rw [List.length_cons]; omega
    · rw [List.length_cons, List.length_cons]; omega
def stepS (nn v : Nat) (L : List (List Nat)) : List (List Nat) := uniq (L.map (loT nn v) ++ L.map (hiT nn v))
theorem stepS_mem {nn v : Nat} {L : List (List Nat)} {y : List Nat} : y ∈ stepS nn v L ↔ ∃ x ∈ L, y = loT nn v x ∨ y = hiT nn v x := by
  unfold stepS
  rw [mem_uniq, List.mem_append, List.mem_map, List.mem_map]
  constructor
  · rintro (⟨x, h, rfl⟩ | ⟨x, h, rfl⟩)
    · exact ⟨x, h, .inl rfl⟩
    · exact ⟨x, h, .inr rfl⟩
  · rintro ⟨x, h, rfl | rfl⟩
    · exact .inl ⟨x, h, rfl⟩
    · exact .inr ⟨x, h, rfl⟩
theorem stepS_len (nn v : Nat) (L : List (List Nat)) : (stepS nn v L).length ≤ 2 * L.length := by
  have := uniq_len (L.map (loT nn v) ++ L.map (hiT nn v))
  rw [List.length_append, List.length_map, List.length_map] at this
  unfold stepS
  omega
def setAt (nn : Nat) (L : List (List Nat)) (vs : List Nat) : List (List Nat) := vs.foldl (fun L v => stepS nn v L) L
theorem setAt_snoc (nn : Nat) (L : List (List Nat)) (vs : List Nat) (v : Nat) : setAt nn L (vs ++ [v]) = stepS nn v (setAt nn L vs) := by simp [setAt]
theorem setAt_len (nn : Nat) : ∀ (vs : List Nat) (L : List (List Nat)), (setAt nn L vs).length ≤ 2 ^ vs.length * L.length
  | [], L => by simp [setAt]
  | v :: vs, L => by
    have h := setAt_len nn vs (stepS nn v L)
    have h2 := stepS_len nn v L
    have h3 : 2 ^ vs.length * (stepS nn v L).length ≤ 2 ^ vs.length * (2 * L.length) := Nat.mul_le_mul_left _ h2
    rw [List.length_cons, Nat.pow_succ, Nat.mul_assoc]
    exact Nat.le_trans h h3
theorem setAt_nodup {nn : Nat} : ∀ (vs : List Nat) {L : List (List Nat)}, L.Nodup → (setAt nn L vs).Nodup
  | [], _, h => h
  | _ :: vs, _, _ => setAt_nodup vs (uniq_nodup _)
theorem setAt_form {nn : Nat} (h16 : nn ≤ 16) : ∀ (vs : List Nat) {L : List (List Nat)}, (∀ x ∈ L, FormN nn x) → ∀ x ∈ setAt nn L vs, FormN nn x
  | [], _, h => h
  | _ :: vs, _, h => setAt_form h16 vs fun x hx => by
    obtain ⟨y, _, rfl | rfl⟩ := stepS_mem.1 hx
    · exact tab_form h16
    · exact tab_form h16
/-- the levels' numbers; a set stays while a row of other cells grows -/
theorem ST.grownI {lo : Nat} {w w' : World} {b n : Nat} {D : DataW Value} {N : Int} {M : List Nat → Prop} {A : Option Addr} {k C : Nat} {ys : List Int} (h : ST lo w b n D N M) (ho : OwnI w 3 A k C ys) (hl : ∀ x, rowOf A x → x < lo) (hg : w.grownBy w' (Value.slice A k C).ownBlock) : ST lo w' b n D N M := by
  refine ⟨h.own.kept hg (fun he => ?_), h.dom, h.cod, fun ws hw => ?_, h.good⟩
  · have hr := ownBlock_row.1 he.symm
    rcases ho.own.2 with ⟨h0, _⟩ | ⟨g, cap, cur, h1, _, h2, _⟩
    · injection h0 with h0
      subst h0
      obtain ⟨a, ha, _⟩ := hr
      cases ha
    · injection h1 with h1
      subst h1
      obtain ⟨a, ha, hb⟩ := hr
      injection ha with ha
      subst ha
      obtain ⟨es, clock, h3, _⟩ := h.own
      simp only at hb
      rw [← hb, h2] at h3
      cases h3
  · obtain ⟨A1, C1, h1, h2, h3⟩ := h.val ws hw
    refine ⟨A1, C1, h1, ⟨h2.len, fun i x hi => ?_⟩, h3⟩
    obtain ⟨b0, off, e1, e2, e3⟩ := h2.get i x hi
    refine ⟨b0, off, e1, Nat.lt_of_lt_of_le e2 hg.size, fun j hj => ?_⟩
    rw [← e3 j hj]
    have hb : w'.heap[b0]? = w.heap[b0]? := hg.block b0 e2 (fun he => by
      have h4 := hl b0 (ownBlock_row.1 he.symm)
      have h5 := h3 b0 ⟨_, e1, rfl⟩
      omega)
    unfold World.cell?
    rw [hb]
def proL (nn : Nat) (L : List (List Nat)) (vs : List Nat) (k : Nat) : List Int := (List.range k).map fun i => ((cntL nn (vs.getD i 0) (setAt nn L (vs.take i)) : Nat) : Int)
theorem proL_succ (nn : Nat) (L : List (List Nat)) (vs : List Nat) (k : Nat) : proL nn L vs (k + 1) = proL nn L vs k ++ [((cntL nn (vs.getD k 0) (setAt nn L (vs.take k)) : Nat) : Int)] := by simp [proL, List.range_succ]
theorem proL_len (nn : Nat) (L : List (List Nat)) (vs : List Nat) (k : Nat) : (proL nn L vs k).length = k := by simp [proL]
def tN0 (xs : List Tb) : Int := (xs.getD 0 ⟨0, none, 0, []⟩).N
def tSet (xs : List Tb) : List (List Nat) := uniq (xs.map Tb.ws)
def prE (xs : List Tb) (os : List Int) : Int := if fm xs then (if (0 < xs.length ∧ (os.length : Int) ≠ tN0 xs) ∨ chk os = 4 then 4 else if 16 < os.length then 6 else 0) else 5
def prL (xs : List Tb) (os : List Int) : List Int := if prE xs os = 0 then proL os.length (tSet xs) (os.map Int.toNat) os.length else []
theorem fm_all {xs : List Tb} (h : fm xs = true) : ∀ t ∈ xs, frm t.N t.ws = true ∧ t.N = tN0 xs := fun t ht => by
  have := (List.all_eq_true.1 h) t ht
  simp only [Bool.and_eq_true, beq_iff_eq] at this
  exact this
theorem tSet_form {xs : List Tb} {nn : Nat} (h : fm xs = true) (hn : xs ≠ [] → tN0 xs = nn) : ∀ ws ∈ tSet xs, FormN nn ws := fun ws hw => by
  have := mem_uniq.1 hw
  obtain ⟨t, ht, rfl⟩ := List.mem_map.1 this
  obtain ⟨h1, h2⟩ := fm_all h t ht
  rw [h2, hn (by rintro rfl; cases ht)] at h1
  exact frm_nat.1 h1
theorem form_len {nn : Nat} {ws : List Nat} (h : FormN nn ws) (h16 : nn ≤ 16) : 0 < ws.length ∧ ws.length ≤ 1024 := by
  have h1 := h.len
  have := nw_le h16
  have h2 : 0 < nw nn := by
    unfold nw
    split
    · omega
    · exact Nat.two_pow_pos _
  omega
theorem tSet_len (xs : List Tb) : (tSet xs).length ≤ xs.length := by
  have := uniq_len (xs.map Tb.ws)
  rw [List.length_map] at this
  exact this
set_option maxRecDepth 100000 in
set_option maxHeartbeats 16000000 in
theorem profile_any (AL : Option Addr) (n C : Nat) (xs : List Tb) (Ao : Option Addr) (Lo Co : Nat) (os : List Int) (w : World) (h : Sl w 2 Tb.cells AL n xs) (hok : ∀ t ∈ xs, TbOk w t) (hn : n ≤ 8796093022210) (ho : IL w Ao Lo os) (hLo : Lo * 8 ≤ 140737488351232) :
    Calls Try.prog 8 #[.slice AL n C, .slice Ao Lo Co] w (RetE w (prL xs os) (prE xs os)) := by
  obtain rfl := ho.len
  have H := Lib.hid h
  have HOK := Lib.hid hok
  have HO := Lib.hid ho
  have hxl := h.len
  have HXL := Lib.hid hxl
  clear h hok ho hxl
  obtain ⟨r, hr⟩ : ∃ r, fm xs = r := ⟨_, rfl⟩
  go_enter Try.func8, Try.ntmps8
  go_wp2_with (fail)
  refine (scheck_any AL n C xs w H.out (by omega) HOK.out).mono ?_
  rintro e w1 ⟨rfl, hs⟩
  rw [hr]
  have HS := Lib.hid hs
  clear hs
  cases r with
  | false =>
    have HPE := Lib.hid (show prE xs os = 5 by unfold prE; rw [hr]; rfl)
    have HPL := Lib.hid (show prL xs os = [] by unfold prL; rw [HPE.out]; rfl)
    clear hr
    go_wp2
    go_ret2
    exact ⟨none, 0, by rw [HPL.out, HPE.out]; rfl, by rw [HPL.out]; exact NewL.nil' HS.out⟩
  | true =>
    have HFM := Lib.hid hr
    clear hr
    by_cases hn0 : n = 0
    · have hx0 : xs = [] := List.eq_nil_of_length_eq_zero (by rw [← HXL.out]; exact hn0)
      have hnp : ¬ (0 : Int) < n := by omega
      have HCO := Lib.hid (show chk os ≠ 4 → ¬ ((0 < xs.length ∧ (os.length : Int) ≠ tN0 xs) ∨ chk os = 4) from fun h4 h => by
        rcases h with ⟨h, _⟩ | h
        · rw [← HXL.out] at h; omega
        · exact h4 h)
      have HNE := Lib.hid (show xs ≠ [] → tN0 xs = (os.length : Nat) from fun h => absurd hx0 h)
      clear hx0 hn0
      go_wp2_with (fail)
      refine (check_any Ao os.length Co os w1 (Sl.same HO.out HS.out) hLo).mono ?_
      rintro e w2 ⟨rfl, hs⟩
      replace HS := Lib.hid (HS.out.trans hs (fun _ _ h => h))
      clear hs
      by_cases hc4 : chk os = 4
      · have HPE := Lib.hid (show prE xs os = 4 by unfold prE; rw [HFM.out, if_pos rfl, if_pos (.inr hc4)])
        have HPL := Lib.hid (show prL xs os = [] by unfold prL; rw [HPE.out]; rfl)
        rw [hc4]
        go_wp2
        go_ret2
        exact ⟨none, 0, by rw [HPL.out, HPE.out]; rfl, by rw [HPL.out]; exact NewL.nil' HS.out⟩
      · have hc4' : (chk os == 4) = false := by simpa using hc4
        have hper : IsPerm os := by
          by_cases hp : IsPerm os
          · exact hp
          · exact absurd (by unfold chk; rw [if_neg hp]) hc4
        have HPM := Lib.hid hper
        have hcond := HCO.out hc4
        have HCOND := Lib.hid hcond
        obtain ⟨ck, hck⟩ : ∃ z, z = chk os := ⟨_, rfl⟩
        rw [← hck] at hc4' ⊢
        clear hc4 hper hck hcond
        by_cases h16 : 16 < os.length
        · have HPE := Lib.hid (show prE xs os = 6 by unfold prE; rw [HFM.out, if_pos rfl, if_neg HCOND.out, if_pos h16])
          have HPL := Lib.hid (show prL xs os = [] by unfold prL; rw [HPE.out]; rfl)
          have h16' : (16 : Int) < os.length := by omega
          go_wp2
          go_ret2
          exact ⟨none, 0, by rw [HPL.out, HPE.out]; rfl, by rw [HPL.out]; exact NewL.nil' HS.out⟩
        · have HPE := Lib.hid (show prE xs os = 0 by unfold prE; rw [HFM.out, if_pos rfl, if_neg HCOND.out, if_neg h16])
          have HPL := Lib.hid (show prL xs os = proL os.length (tSet xs) (os.map Int.toNat) os.length by unfold prL; rw [HPE.out, if_pos rfl])
          have h16' : ¬ (16 : Int) < os.length := by omega
          have hFN : ∀ ws ∈ tSet xs, FormN os.length ws := tSet_form HFM.out HNE.out
          have HFN := Lib.hid hFN
          have hoks : ∀ t ∈ xs, TbOk w2 t ∧ t.N = (os.length : Int) ∧ 0 < t.ws.length ∧ t.ws.length ≤ 1024 := fun t ht => by
            obtain ⟨h1, h2⟩ := fm_all HFM.out t ht
            have hne : xs ≠ [] := by rintro rfl; cases ht
            have h3 := form_len (hFN t.ws (mem_uniq.2 (List.mem_map.2 ⟨t, ht, rfl⟩))) (by omega)
            exact ⟨(HOK.out t ht).same HS.out, h2.trans (HNE.out hne), h3.1, h3.2⟩
          have HOS := Lib.hid hoks
          clear hFN hoks
          go_wp2_with (fail)
          refine (sof_any _ n C xs (os.length : Int) w2 (Sl.same H.out HS.out) HOS.out (by omega)).mono ?_
          rintro e w3 ⟨b, D, rfl, hs, hbw, hst⟩
          replace HS := Lib.hid (HS.out.trans hs (fun _ _ h => h))
          have HST := Lib.hid (hst.iff (M' := fun ws => ws ∈ tSet xs) (fun ws => by
            unfold tSet
            rw [mem_uniq, List.mem_map]
            exact ⟨fun ⟨t, h1, h2⟩ => ⟨t, h1, h2.symm⟩, fun ⟨t, h1, h2⟩ => ⟨t, h1, h2.symm⟩⟩))
          obtain ⟨vs, hvs⟩ : ∃ z, z = os.map Int.toNat := ⟨_, rfl⟩
          have HVS := Lib.hid hvs
          rw [← hvs] at HPL
          obtain ⟨L0, hL0⟩ : ∃ z, z = tSet xs := ⟨_, rfl⟩
          have hL0n : L0.length ≤ n := by rw [hL0, HXL.out]; exact tSet_len xs
          have hL0d : L0.Nodup := by rw [hL0]; exact uniq_nodup _
          rw [← hL0] at HST HPL HFN
          have HL0D := Lib.hid hL0d
          clear hs hbw hst hvs hL0 hL0d HOS
          go_wp2
          clear hc4' h16'
          go_loopw [6, 7, 39] (fun l s i wi => ∃ (k : Nat) (A : Option Addr) (D0 b m lo : Nat) (D : DataW Value), k ≤ os.length ∧ i = .int .i64 k ∧ s = .map (some b) ∧ l = .slice A k D0 ∧ OwnI wi 3 A k D0 (proL os.length L0 vs k) ∧ Fresh w.heap.size A ∧ Same w wi ∧ ST lo wi b m D (os.length : Int) (fun ws => ws ∈ setAt os.length L0 (vs.take k)) ∧ m ≤ 2 ^ k * n) (fun _ _ i _ => os.length - (intOf i).toNat)
          case atStart => exact ⟨0, none, 0, b, n, 0, D, by omega, rfl, rfl, rfl, Own.nil _ _ _ _, fresh_none _, HS.out, by simpa [setAt] using HST.out, by simp⟩
          case round =>
            clear HS HST
            obtain ⟨k, A, D0, b, m, lo, D, hk, rfl, rfl, rfl, hown, hfr, hs, hst, hm⟩ := hrel
            have HMM := Lib.hid hm
            clear hm
            by_cases hlt : k < os.length
            · obtain ⟨v, hv, hvn⟩ := IsPerm.at HPM.out hlt
              obtain ⟨bo, oo, hA, hbo, hc⟩ := (Sl.same HO.out hs).at1 hv
              subst hA
              have hvk : vs[k]? = some v := by rw [HVS.out, List.getElem?_map, hv]; rfl
              have hvd : vs.getD k 0 = v := by rw [List.getD_eq_getElem?_getD, hvk]; rfl
              have htk : vs.take (k + 1) = vs.take k ++ [v] := by rw [List.take_add_one, hvk]; rfl
              have hk0 : (0 : Int) ≤ k := by omega
              have hk1 : (k : Int) < os.length := by omega
              have hk16 : k ≤ 16 := by omega
              have hb1 : 65536 * n ≤ 1000000000000000000 := by omega
              have hnn16 : os.length ≤ 16 := by omega
              have hvl : (vs.take k).length = k := by rw [List.length_take, HVS.out, List.length_map]; omega
              have hp2 : 2 ^ k * n ≤ 65536 * n := Nat.mul_le_mul_right n (Nat.pow_le_pow_right (Nat.le_succ 1) hk16)
              have hlen : (setAt os.length L0 (vs.take k)).length ≤ 2 ^ k * n := by
                have h1 := setAt_len os.length (vs.take k) L0
                rw [hvl] at h1
                exact Nat.le_trans h1 (Nat.mul_le_mul_left _ hL0n)
              have HG := Lib.hid (given_any lo b m os.length v D (setAt os.length L0 (vs.take k)) wr hst (setAt_nodup _ HL0D.out) (setAt_form hnn16 _ HFN.out) hvn hnn16 (Nat.le_trans HMM.out (Nat.le_trans hp2 hb1)) (Nat.le_trans hlen (Nat.le_trans hp2 hb1)))
              have hm2 : 2 * (2 ^ k * n) = 2 ^ (k + 1) * n := by rw [Nat.pow_succ, Nat.mul_comm (2 ^ k) 2, Nat.mul_assoc]
              have HM := Lib.hid (show ∀ z, z ≤ 2 * m → z ≤ 2 ^ (k + 1) * n from fun z hz => hm2 ▸ Nat.le_trans hz (Nat.mul_le_mul_left 2 HMM.out))
              have HRW := Lib.hid (show ∀ x, rowOf A x → x < wr.heap.size from fun x ⟨a, ha, hx⟩ => by rw [← hx]; exact hown.block a ha)
              have HOW := Lib.hid hown
              have HFR := Lib.hid hfr
              have HS := Lib.hid hs
              have HVD := Lib.hid hvd
              have HTK := Lib.hid htk
              clear hv hvk hvd htk hp2 hlen hm2 HMM hvl hb1 hown hfr hs hst
              go_wp2_with (fail)
              refine HG.out.mono ?_
              rintro e w4 ⟨b', n', D', rfl, hs, _, hn', hst'⟩
              replace HS := Lib.hid (HS.out.trans hs (fun _ _ h => h))
              replace HOW := Lib.hid (Own.frm HOW.out hs (fun _ _ => id))
              have HST := Lib.hid (hst'.iff (M' := fun ws => ws ∈ setAt os.length L0 (vs.take (k + 1))) (fun ws => by rw [HTK.out, setAt_snoc, stepS_mem]))
              replace HM := Lib.hid (HM.out n' hn')
              obtain ⟨ct, hct⟩ : ∃ z, z = cntL os.length v (setAt os.length L0 (vs.take k)) := ⟨_, rfl⟩
              have HCT := Lib.hid hct
              rw [← hct]
              clear hs hn' hst' hct HG hc hbo
              go_upto_region 13 with fail
              refine wp_region_lit ?_
              refine wpList_read 2 ?_
              simp only [List.take_succ_cons, List.take_zero, List.drop_succ_cons, List.drop_zero]
              repeat (any_goals (first | go_big_quiet_step (fail) | quiet_step (fail)))
              refine wpQuiet_nil ?_
              refine wpList_plain rfl fun K hK => ?_
              go_simp
              refine hK _ _ ?_
              clear hK K
              refine list_world fun wc hwc => ?_
              have hsc : Same w4 wc := by rw [hwc]; exact (Frm.refl _ _).alloc _
              have hNc := Blk.new w4 3 #[.int .i64 (ct : Int)]
              rw [← hwc] at hNc
              clear hwc
              refine wpList_plain rfl fun K hK => ?_
              refine Own.grow (f := icell) (.tmp 49) (.tmp 51) _ rfl Try.underlying26 info_int rfl rfl (Own.frm HOW.out hsc (fun _ _ => id)) icell_len [(ct : Int)] (by simp) ⟨w4.heap.size, 0, none⟩ 1 rfl (fun j u hj => news_of_blk hNc j u hj) (by simp [icell, Value.oneCell']) (by simp [maxLen] <;> omega) (by simp <;> omega) ?_
              intro g C' wd hOd _ hgr hat
              refine hK _ _ ?_
              clear hK K
              have hsd : Same w wd := (HS.out.trans hsc (fun _ _ h => h)).grown hgr (fun b hb => .inr (HFR.out b (ownBlock_row.1 hb)))
              have hgF : Fresh w.heap.size (some ⟨g, 0, none⟩) := by
                rcases hat with ⟨h1, _⟩ | ⟨h1, _⟩
                · rw [← h1]; exact HFR.out
                · have := HS.out.size; have := hsc.size; exact fresh_some (by omega)
              have hst5 : Same w4 wd → True := fun _ => trivial
              have hod : OwnI wd 3 (some ⟨g, 0, none⟩) (k + 1) C' (proL os.length L0 vs (k + 1)) := by
                rw [proL_succ, HVD.out, ← HCT.out]
                exact hOd
              have hst6 := (HST.out.same hsc).grownI (Own.frm HOW.out hsc (fun _ _ => id)) HRW.out hgr
              have HOD := Lib.hid hod
              have HSD := Lib.hid hsd
              have HGF := Lib.hid hgF
              have HT6 := Lib.hid hst6
              clear hgr hOd hat hNc hsc hod hsd hgF hst5 hst6 HOW HS HFR HST
              go_wp2
              go_roundw
              case rel => exact ⟨k + 1, some ⟨g, 0, none⟩, C', b', n', wr.heap.size, D', by omega, by go_num, rfl, rfl, HOD.out, HGF.out, HSD.out, HT6.out, HM.out⟩
              case measure => simp [intOf] <;> omega
            · obtain rfl : k = os.length := by omega
              have HOW := Lib.hid hown
              have HFR := Lib.hid hfr
              have HS := Lib.hid hs
              clear hown hfr hs hst HMM
              go_wp2
              go_ret2
              exact ⟨A, D0, by rw [HPL.out, HPE.out, proL_len]; rfl, by rw [HPL.out, NewL, proL_len]; exact ⟨HOW.out, HFR.out, HS.out⟩⟩
    · obtain ⟨t0, ht0⟩ : ∃ t, xs[0]? = some t := ⟨_, List.getElem?_eq_getElem (by rw [← HXL.out]; omega)⟩
      have hd0 : tN0 xs = t0.N := by unfold tN0; rw [List.getD_eq_getElem?_getD, ht0]; rfl
      obtain ⟨bl, o, hA, hbl, hc⟩ := (Sl.same H.out HS.out).get 0 t0 ht0
      have c0 : w1.cell? ⟨bl, o, none⟩ = some (.int .i64 t0.N) := by simpa [Tb.cells] using hc 0 (by omega)
      subst hA
      have hnp : (0 : Int) < n := by omega
      have HD0 := Lib.hid hd0
      obtain ⟨N0, hN0⟩ : ∃ z, z = t0.N := ⟨_, rfl⟩
      rw [← hN0] at c0 HD0
      clear hc ht0 hd0 hN0
      by_cases hNe : N0 = (os.length : Int)
      · subst hNe
        have HCO := Lib.hid (show chk os ≠ 4 → ¬ ((0 < xs.length ∧ (os.length : Int) ≠ tN0 xs) ∨ chk os = 4) from fun h4 h => by
          rcases h with ⟨_, h⟩ | h
          · exact h HD0.out.symm
          · exact h4 h)
        have HNE := Lib.hid (show xs ≠ [] → tN0 xs = (os.length : Nat) from fun _ => HD0.out)
        go_wp2_with (fail)
        refine (check_any Ao os.length Co os w1 (Sl.same HO.out HS.out) hLo).mono ?_
        rintro e w2 ⟨rfl, hs⟩
        replace HS := Lib.hid (HS.out.trans hs (fun _ _ h => h))
        clear hs
        by_cases hc4 : chk os = 4
        · have HPE := Lib.hid (show prE xs os = 4 by unfold prE; rw [HFM.out, if_pos rfl, if_pos (.inr hc4)])
          have HPL := Lib.hid (show prL xs os = [] by unfold prL; rw [HPE.out]; rfl)
          rw [hc4]
          go_wp2
          go_ret2
          exact ⟨none, 0, by rw [HPL.out, HPE.out]; rfl, by rw [HPL.out]; exact NewL.nil' HS.out⟩
        · have hc4' : (chk os == 4) = false := by simpa using hc4
          have hper : IsPerm os := by
            by_cases hp : IsPerm os
            · exact hp
            · exact absurd (by unfold chk; rw [if_neg hp]) hc4
          have HPM := Lib.hid hper
          have hcond := HCO.out hc4
          have HCOND := Lib.hid hcond
          obtain ⟨ck, hck⟩ : ∃ z, z = chk os := ⟨_, rfl⟩
          rw [← hck] at hc4' ⊢
          clear hc4 hper hck hcond
          by_cases h16 : 16 < os.length
          · have HPE := Lib.hid (show prE xs os = 6 by unfold prE; rw [HFM.out, if_pos rfl, if_neg HCOND.out, if_pos h16])
            have HPL := Lib.hid (show prL xs os = [] by unfold prL; rw [HPE.out]; rfl)
            have h16' : (16 : Int) < os.length := by omega
            go_wp2
            go_ret2
            exact ⟨none, 0, by rw [HPL.out, HPE.out]; rfl, by rw [HPL.out]; exact NewL.nil' HS.out⟩
          · have HPE := Lib.hid (show prE xs os = 0 by unfold prE; rw [HFM.out, if_pos rfl, if_neg HCOND.out, if_neg h16])
            have HPL := Lib.hid (show prL xs os = proL os.length (tSet xs) (os.map Int.toNat) os.length by unfold prL; rw [HPE.out, if_pos rfl])
            have h16' : ¬ (16 : Int) < os.length := by omega
            have hFN : ∀ ws ∈ tSet xs, FormN os.length ws := tSet_form HFM.out HNE.out
            have HFN := Lib.hid hFN
            have hoks : ∀ t ∈ xs, TbOk w2 t ∧ t.N = (os.length : Int) ∧ 0 < t.ws.length ∧ t.ws.length ≤ 1024 := fun t ht => by
              obtain ⟨h1, h2⟩ := fm_all HFM.out t ht
              have hne : xs ≠ [] := by rintro rfl; cases ht
              have h3 := form_len (hFN t.ws (mem_uniq.2 (List.mem_map.2 ⟨t, ht, rfl⟩))) (by omega)
              exact ⟨(HOK.out t ht).same HS.out, h2.trans (HNE.out hne), h3.1, h3.2⟩
            have HOS := Lib.hid hoks
            clear hFN hoks
            go_wp2_with (fail)
            refine (sof_any _ n C xs (os.length : Int) w2 (Sl.same H.out HS.out) HOS.out (by omega)).mono ?_
            rintro e w3 ⟨b, D, rfl, hs, hbw, hst⟩
            replace HS := Lib.hid (HS.out.trans hs (fun _ _ h => h))
            have HST := Lib.hid (hst.iff (M' := fun ws => ws ∈ tSet xs) (fun ws => by
              unfold tSet
              rw [mem_uniq, List.mem_map]
              exact ⟨fun ⟨t, h1, h2⟩ => ⟨t, h1, h2.symm⟩, fun ⟨t, h1, h2⟩ => ⟨t, h1, h2.symm⟩⟩))
            obtain ⟨vs, hvs⟩ : ∃ z, z = os.map Int.toNat := ⟨_, rfl⟩
            have HVS := Lib.hid hvs
            rw [← hvs] at HPL
            obtain ⟨L0, hL0⟩ : ∃ z, z = tSet xs := ⟨_, rfl⟩
            have hL0n : L0.length ≤ n := by rw [hL0, HXL.out]; exact tSet_len xs
            have hL0d : L0.Nodup := by rw [hL0]; exact uniq_nodup _
            rw [← hL0] at HST HPL HFN
            have HL0D := Lib.hid hL0d
            clear hs hbw hst hvs hL0 hL0d HOS
            go_wp2
            clear hc4' h16'
            go_loopw [6, 7, 39] (fun l s i wi => ∃ (k : Nat) (A : Option Addr) (D0 b m lo : Nat) (D : DataW Value), k ≤ os.length ∧ i = .int .i64 k ∧ s = .map (some b) ∧ l = .slice A k D0 ∧ OwnI wi 3 A k D0 (proL os.length L0 vs k) ∧ Fresh w.heap.size A ∧ Same w wi ∧ ST lo wi b m D (os.length : Int) (fun ws => ws ∈ setAt os.length L0 (vs.take k)) ∧ m ≤ 2 ^ k * n) (fun _ _ i _ => os.length - (intOf i).toNat)
            case atStart => exact ⟨0, none, 0, b, n, 0, D, by omega, rfl, rfl, rfl, Own.nil _ _ _ _, fresh_none _, HS.out, by simpa [setAt] using HST.out, by simp⟩
            case round =>
              clear HS HST
              obtain ⟨k, A, D0, b, m, lo, D, hk, rfl, rfl, rfl, hown, hfr, hs, hst, hm⟩ := hrel
              have HMM := Lib.hid hm
              clear hm
              by_cases hlt : k < os.length
              · obtain ⟨v, hv, hvn⟩ := IsPerm.at HPM.out hlt
                obtain ⟨bo, oo, hA, hbo, hc⟩ := (Sl.same HO.out hs).at1 hv
                subst hA
                have hvk : vs[k]? = some v := by rw [HVS.out, List.getElem?_map, hv]; rfl
                have hvd : vs.getD k 0 = v := by rw [List.getD_eq_getElem?_getD, hvk]; rfl
                have htk : vs.take (k + 1) = vs.take k ++ [v] := by rw [List.take_add_one, hvk]; rfl
                have hk0 : (0 : Int) ≤ k := by omega
                have hk1 : (k : Int) < os.length := by omega
                have hk16 : k ≤ 16 := by omega
                have hb1 : 65536 * n ≤ 1000000000000000000 := by omega
                have hnn16 : os.length ≤ 16 := by omega
                have hvl : (vs.take k).length = k := by rw [List.length_take, HVS.out, List.length_map]; omega
                have hp2 : 2 ^ k * n ≤ 65536 * n := Nat.mul_le_mul_right n (Nat.pow_le_pow_right (Nat.le_succ 1) hk16)
                have hlen : (setAt os.length L0 (vs.take k)).length ≤ 2 ^ k * n := by
                  have h1 := setAt_len os.length (vs.take k) L0
                  rw [hvl] at h1
                  exact Nat.le_trans h1 (Nat.mul_le_mul_left _ hL0n)
                have HG := Lib.hid (given_any lo b m os.length v D (setAt os.length L0 (vs.take k)) wr hst (setAt_nodup _ HL0D.out) (setAt_form hnn16 _ HFN.out) hvn hnn16 (Nat.le_trans HMM.out (Nat.le_trans hp2 hb1)) (Nat.le_trans hlen (Nat.le_trans hp2 hb1)))
                have hm2 : 2 * (2 ^ k * n) = 2 ^ (k + 1) * n := by rw [Nat.pow_succ, Nat.mul_comm (2 ^ k) 2, Nat.mul_assoc]
                have HM := Lib.hid (show ∀ z, z ≤ 2 * m → z ≤ 2 ^ (k + 1) * n from fun z hz => hm2 ▸ Nat.le_trans hz (Nat.mul_le_mul_left 2 HMM.out))
                have HRW := Lib.hid (show ∀ x, rowOf A x → x < wr.heap.size from fun x ⟨a, ha, hx⟩ => by rw [← hx]; exact hown.block a ha)
                have HOW := Lib.hid hown
                have HFR := Lib.hid hfr
                have HS := Lib.hid hs
                have HVD := Lib.hid hvd
                have HTK := Lib.hid htk
                clear hv hvk hvd htk hp2 hlen hm2 HMM hvl hb1 hown hfr hs hst
                go_wp2_with (fail)
                refine HG.out.mono ?_
                rintro e w4 ⟨b', n', D', rfl, hs, _, hn', hst'⟩
                replace HS := Lib.hid (HS.out.trans hs (fun _ _ h => h))
                replace HOW := Lib.hid (Own.frm HOW.out hs (fun _ _ => id))
                have HST := Lib.hid (hst'.iff (M' := fun ws => ws ∈ setAt os.length L0 (vs.take (k + 1))) (fun ws => by rw [HTK.out, setAt_snoc, stepS_mem]))
                replace HM := Lib.hid (HM.out n' hn')
                obtain ⟨ct, hct⟩ : ∃ z, z = cntL os.length v (setAt os.length L0 (vs.take k)) := ⟨_, rfl⟩
                have HCT := Lib.hid hct
                rw [← hct]
                clear hs hn' hst' hct HG hc hbo
                go_upto_region 13 with fail
                refine wp_region_lit ?_
                refine wpList_read 2 ?_
                simp only [List.take_succ_cons, List.take_zero, List.drop_succ_cons, List.drop_zero]
                repeat (any_goals (first | go_big_quiet_step (fail) | quiet_step (fail)))
                refine wpQuiet_nil ?_
                refine wpList_plain rfl fun K hK => ?_
                go_simp
                refine hK _ _ ?_
                clear hK K
                refine list_world fun wc hwc => ?_
                have hsc : Same w4 wc := by rw [hwc]; exact (Frm.refl _ _).alloc _
                have hNc := Blk.new w4 3 #[.int .i64 (ct : Int)]
                rw [← hwc] at hNc
                clear hwc
                refine wpList_plain rfl fun K hK => ?_
                refine Own.grow (f := icell) (.tmp 49) (.tmp 51) _ rfl Try.underlying26 info_int rfl rfl (Own.frm HOW.out hsc (fun _ _ => id)) icell_len [(ct : Int)] (by simp) ⟨w4.heap.size, 0, none⟩ 1 rfl (fun j u hj => news_of_blk hNc j u hj) (by simp [icell, Value.oneCell']) (by simp [maxLen] <;> omega) (by simp <;> omega) ?_
                intro g C' wd hOd _ hgr hat
                refine hK _ _ ?_
                clear hK K
                have hsd : Same w wd := (HS.out.trans hsc (fun _ _ h => h)).grown hgr (fun b hb => .inr (HFR.out b (ownBlock_row.1 hb)))
                have hgF : Fresh w.heap.size (some ⟨g, 0, none⟩) := by
                  rcases hat with ⟨h1, _⟩ | ⟨h1, _⟩
                  · rw [← h1]; exact HFR.out
                  · have := HS.out.size; have := hsc.size; exact fresh_some (by omega)
                have hst5 : Same w4 wd → True := fun _ => trivial
                have hod : OwnI wd 3 (some ⟨g, 0, none⟩) (k + 1) C' (proL os.length L0 vs (k + 1)) := by
                  rw [proL_succ, HVD.out, ← HCT.out]
                  exact hOd
                have hst6 := (HST.out.same hsc).grownI (Own.frm HOW.out hsc (fun _ _ => id)) HRW.out hgr
                have HOD := Lib.hid hod
                have HSD := Lib.hid hsd
                have HGF := Lib.hid hgF
                have HT6 := Lib.hid hst6
                clear hgr hOd hat hNc hsc hod hsd hgF hst5 hst6 HOW HS HFR HST
                go_wp2
                go_roundw
                case rel => exact ⟨k + 1, some ⟨g, 0, none⟩, C', b', n', wr.heap.size, D', by omega, by go_num, rfl, rfl, HOD.out, HGF.out, HSD.out, HT6.out, HM.out⟩
                case measure => simp [intOf] <;> omega
              · obtain rfl : k = os.length := by omega
                have HOW := Lib.hid hown
                have HFR := Lib.hid hfr
                have HS := Lib.hid hs
                clear hown hfr hs hst HMM
                go_wp2
                go_ret2
                exact ⟨A, D0, by rw [HPL.out, HPE.out, proL_len]; rfl, by rw [HPL.out, NewL, proL_len]; exact ⟨HOW.out, HFR.out, HS.out⟩⟩
      · have hNe' : ((os.length : Int) != N0) = true := by simpa using fun h => hNe h.symm
        have HPE := Lib.hid (show prE xs os = 4 by
          unfold prE
          rw [HFM.out, if_pos rfl, if_pos (.inl ⟨by rw [← HXL.out]; omega, by rw [HD0.out]; exact fun h => hNe h.symm⟩)])
        have HPL := Lib.hid (show prL xs os = [] by unfold prL; rw [HPE.out]; rfl)
        clear hNe
        go_wp2
        go_ret2
        exact ⟨none, 0, by rw [HPL.out, HPE.out]; rfl, by rw [HPL.out]; exact NewL.nil' HS.out⟩
end Go.Proofs.Ytjgndclfbcijmaa


/- Shape: Size, Level. -/
namespace Go.Proofs.Ytjgndclfbcijmaa
open Go.RowKit Go.Tk Go.Maps

theorem cnt_le (nn v : Nat) (L : List (List Nat)) : cntL nn v L ≤ L.length := List.length_filter_le _ _
theorem sum_snoc {ys : List Int} {k : Nat} {x : Int} (h : ys[k]? = some x) : (ys.take (k + 1)).sum = (ys.take k).sum + x := by
  rw [List.take_add_one, h, List.sum_append]
  simp
theorem proL_sum (nn : Nat) (L : List (List Nat)) (vs : List Nat) (n : Nat) (hL : L.length ≤ n) : ∀ k, 0 ≤ (proL nn L vs k).sum ∧ (proL nn L vs k).sum ≤ ((2 ^ k * n : Nat) : Int)
  | 0 => by simp [proL]
  | k + 1 => by
    obtain ⟨h1, h2⟩ := proL_sum nn L vs n hL k
    have h3 := setAt_len nn (vs.take k) L
    have h4 := cnt_le nn (vs.getD k 0) (setAt nn L (vs.take k))
    have h5 : 2 ^ (vs.take k).length * L.length ≤ 2 ^ k * n := Nat.mul_le_mul (Nat.pow_le_pow_right (Nat.le_succ 1) (by rw [List.length_take]; omega)) hL
    have h6 : 2 ^ (k + 1) * n = 2 ^ k * n + 2 ^ k * n := by rw [Nat.pow_succ, Nat.mul_assoc, Nat.mul_left_comm, Nat.two_mul]
    rw [proL_succ, List.sum_append, h6]
    simp only [List.sum_cons, List.sum_nil]
    generalize cntL nn (vs.getD k 0) (setAt nn L (vs.take k)) = c at *
    generalize 2 ^ k * n = z at *
    omega
theorem proL_take (nn : Nat) (L : List (List Nat)) (vs : List Nat) {j k : Nat} (h : j ≤ k) : (proL nn L vs k).take j = proL nn L vs j := by
  unfold proL
  rw [← List.map_take, List.take_range, Nat.min_eq_left h]
theorem prL_bound {xs : List Tb} {os : List Int} {n : Nat} (hn : xs.length = n) (hb : n ≤ 8796093022210) (k : Nat) (hk : k ≤ (prL xs os).length) : 0 ≤ ((prL xs os).take k).sum ∧ ((prL xs os).take k).sum ≤ 1000000000000000000 := by
  unfold prL at hk ⊢
  by_cases he : prE xs os = 0
  · rw [if_pos he] at hk ⊢
    rw [proL_len] at hk
    have h16 : os.length ≤ 16 := by
      by_cases h : 16 < os.length
      · exfalso
        unfold prE at he
        split at he
        · split at he
          · cases he
          · first | (cases he; done) | (rw [if_pos h] at he; cases he)
        · cases he
      · omega
    rw [proL_take _ _ _ hk]
    obtain ⟨h1, h2⟩ := proL_sum os.length (tSet xs) (os.map Int.toNat) n (by rw [← hn]; exact tSet_len xs) k
    have h3 : 2 ^ k * n ≤ 65536 * n := Nat.mul_le_mul_right n (Nat.pow_le_pow_right (Nat.le_succ 1) (by omega : k ≤ 16))
    generalize 2 ^ k * n = z at *
    omega
  · rw [if_neg he]
    simp
theorem prL_len (xs : List Tb) (os : List Int) : (prL xs os).length ≤ os.length := by
  unfold prL
  split
  · rw [proL_len]; exact Nat.le_refl _
  · simp
set_option maxRecDepth 100000 in
set_option maxHeartbeats 8000000 in
theorem size_any (AL : Option Addr) (n C : Nat) (xs : List Tb) (Ao : Option Addr) (Lo Co : Nat) (os : List Int) (w : World) (h : Sl w 2 Tb.cells AL n xs) (hok : ∀ t ∈ xs, TbOk w t) (hn : n ≤ 8796093022210) (ho : IL w Ao Lo os) (hLo : Lo * 8 ≤ 140737488351232) :
    Calls Try.prog 7 #[.slice AL n C, .slice Ao Lo Co] w fun e w' => e = .returned (.tuple #[.int .i64 (prL xs os).sum, .int .i64 (prE xs os)]) ∧ Same w w' := by
  have HP := Lib.hid (profile_any AL n C xs Ao Lo Co os w h hok hn ho hLo)
  have HB := Lib.hid (fun k hk => prL_bound (xs := xs) (os := os) (n := n) h.len.symm hn k hk)
  have hyl : (prL xs os).length ≤ Lo := by rw [ho.len]; exact prL_len xs os
  clear h hok ho
  obtain ⟨ys, hys⟩ : ∃ z, z = prL xs os := ⟨_, rfl⟩
  obtain ⟨er, her⟩ : ∃ z, z = prE xs os := ⟨_, rfl⟩
  rw [← hys, ← her] at HP ⊢
  rw [← hys] at HB hyl
  clear hys her
  go_enter Try.func7, Try.ntmps7
  go_wp2_with (fail)
  refine HP.out.mono ?_
  rintro e w1 ⟨A, D, rfl, hNT⟩
  have HO := Lib.hid (Own.il hNT.1)
  have HS := Lib.hid hNT.2.2
  clear hNT
  go_wp2
  go_loopw [8, 19] (fun s i wi => ∃ k : Nat, k ≤ ys.length ∧ i = .int .i64 k ∧ s = .int .i64 (ys.take k).sum ∧ wi = w1) (fun _ i _ => ys.length - (intOf i).toNat)
  case atStart => exact ⟨0, by omega, rfl, by simp, rfl⟩
  case round =>
    obtain ⟨k, hk, rfl, rfl, hwz⟩ := hrel
    subst hwz
    by_cases hlt : k < ys.length
    · obtain ⟨x, hx⟩ : ∃ x, ys[k]? = some x := ⟨_, List.getElem?_eq_getElem hlt⟩
      obtain ⟨b, o, hA, hb, hc⟩ := HO.out.at1 hx
      subst hA
      have h1 := HB.out k hk
      have h2 := HB.out (k + 1) hlt
      have h3 := sum_snoc hx
      have hwr : IntKind.i64.wrap ((ys.take k).sum + x) = (ys.take (k + 1)).sum := by rw [← h3]; exact IntWalk.i64_in _ (by omega)
      have hk0 : (0 : Int) ≤ k := by omega
      have hk1 : (k : Int) < ys.length := by omega
      clear h1 h2 h3 hx
      go_wp2
      go_roundw
      case rel => exact ⟨k + 1, by omega, by go_num, rfl, by trivial⟩
      case measure => simp [intOf] <;> omega
    · obtain rfl : k = ys.length := by omega
      rw [List.take_of_length_le (Nat.le_refl _)]
      go_wp2
      go_ret2
      exact ⟨rfl, HS.out⟩
end Go.Proofs.Ytjgndclfbcijmaa


/- Shape: Level. -/
namespace Go.Proofs.Ytjgndclfbcijmaa
open Go.RowKit Go.Tk Go.Maps

def lvN (xs : List Tb) : Nat := if xs.length = 0 then 16 else (tN0 xs).toNat
def lvE (xs : List Tb) (ab : Nat) (v : Int) : Int := if fm xs then (if v < 0 ∨ (lvN xs : Int) ≤ v ∨ ab / 2 ^ lvN xs ≠ 0 then 2 else if ab.testBit v.toNat then 4 else 0) else 5
def bitsL (nn ab : Nat) : List Nat := (List.range nn).filter (fun u => ab.testBit u)
def lvC (xs : List Tb) (ab : Nat) (v : Int) : Nat := if lvE xs ab v = 0 then cntL (lvN xs) v.toNat (setAt (lvN xs) (tSet xs) (bitsL (lvN xs) ab)) else 0
theorem bitsL_succ (k ab : Nat) : bitsL (k + 1) ab = bitsL k ab ++ (if ab.testBit k then [k] else []) := by
  unfold bitsL
  rw [List.range_succ, List.filter_append]
  congr 1
  cases h : ab.testBit k <;> simp [h]
theorem sbit_int {ab : Nat} (hab : ab < 18446744073709551616) (k : Nat) : (bits .and .u64 ((ab : Int) / 2 ^ k) 1 == 1) = ab.testBit k := by
  have h1 : (ab : Int) / 2 ^ k = ((ab / 2 ^ k : Nat) : Int) := by
    rw [Int.natCast_ediv, Int.natCast_pow]
    rfl
  have h2 := u64_and_nat (ab / 2 ^ k) 1 (Nat.lt_of_le_of_lt (Nat.div_le_self _ _) hab) (by decide)
  rw [h1, show (1 : Int) = ((1 : Nat) : Int) from rfl, h2, Nat.and_one_is_mod, Nat.testBit_eq_decide_div_mod_eq]
  by_cases hb : ab / 2 ^ k % 2 = 1
  · rw [hb]; rfl
  · rw [decide_eq_false hb, beq_eq_false_iff_ne]
    omega
theorem bits_len (k ab : Nat) : (bitsL k ab).length ≤ k := by
  unfold bitsL
  have := List.length_filter_le (fun u => ab.testBit u) (List.range k)
  simpa using this
set_option maxRecDepth 100000 in
set_option maxHeartbeats 16000000 in
theorem level_any (AL : Option Addr) (n C : Nat) (xs : List Tb) (ab : Nat) (v : Int) (w : World) (h : Sl w 2 Tb.cells AL n xs) (hok : ∀ t ∈ xs, TbOk w t) (hn : n ≤ 8796093022210) (hab : ab < 18446744073709551616) :
    Calls Try.prog 10 #[.slice AL n C, .int .u64 ab, .int .i64 v] w fun e w' => e = .returned (.tuple #[.int .i64 (lvC xs ab v : Nat), .int .i64 (lvE xs ab v)]) ∧ Same w w' := by
  have H := Lib.hid h
  have HOK := Lib.hid hok
  have HXL := Lib.hid h.len
  clear h hok
  obtain ⟨r, hr⟩ : ∃ r, fm xs = r := ⟨_, rfl⟩
  go_enter Try.func10, Try.ntmps10
  go_wp2_with (fail)
  refine (scheck_any AL n C xs w H.out (by omega) HOK.out).mono ?_
  rintro e w1 ⟨rfl, hs⟩
  rw [hr]
  have HS := Lib.hid hs
  clear hs
  cases r with
  | false =>
    have HE := Lib.hid (show lvE xs ab v = 5 by unfold lvE; rw [hr]; rfl)
    have HC := Lib.hid (show lvC xs ab v = 0 by unfold lvC; rw [HE.out]; rfl)
    clear hr
    go_wp2
    go_ret2
    exact ⟨by rw [HE.out, HC.out]; rfl, HS.out⟩
  | true =>
    have HFM := Lib.hid hr
    clear hr
    by_cases hn0 : n = 0
    · have hnp : ¬ (0 : Int) < n := by omega
      have HN0 := Lib.hid hn0
      clear hn0
      have hx0 : xs.length = 0 := by rw [← HXL.out]; exact HN0.out
      obtain ⟨nn, hnn⟩ : ∃ z : Nat, z = 16 := ⟨_, rfl⟩
      have HNN := Lib.hid (show lvN xs = nn by unfold lvN; rw [if_pos hx0, hnn])
      have hn16 : nn ≤ 16 := by omega
      have HND := Lib.hid (show xs ≠ [] → tN0 xs = (nn : Int) from fun h => absurd (List.eq_nil_of_length_eq_zero hx0) h)
      go_upto_region 6 with fail
      rw [show (Value.int IntKind.i64 16) = Value.int IntKind.i64 (nn : Int) by rw [hnn]; rfl]
      clear hnn hx0 hnp
      by_cases hv0 : v < 0
      · have HE := Lib.hid (show lvE xs ab v = 2 by unfold lvE; rw [HFM.out, if_pos rfl, if_pos (.inl hv0)])
        have HC := Lib.hid (show lvC xs ab v = 0 by unfold lvC; rw [HE.out]; rfl)
        go_wp2
        go_ret2
        exact ⟨by rw [HE.out, HC.out]; rfl, HS.out⟩
      · have hv0' : ¬ v < 0 := hv0
        obtain ⟨vn, rfl⟩ := Int.eq_ofNat_of_zero_le (show 0 ≤ v by omega)
        clear hv0 hv0'
        by_cases hvn : nn ≤ vn
        · have hvn' : (nn : Int) ≤ vn := by omega
          have HE := Lib.hid (show lvE xs ab (vn : Int) = 2 by unfold lvE; rw [HFM.out, if_pos rfl, if_pos (.inr (.inl (by rw [HNN.out]; exact hvn')))])
          have HC := Lib.hid (show lvC xs ab (vn : Int) = 0 by unfold lvC; rw [HE.out]; rfl)
          go_wp2
          go_ret2
          exact ⟨by rw [HE.out, HC.out]; rfl, HS.out⟩
        · have hvn' : (vn : Int) < nn := by omega
          have hvn0 : (0 : Int) ≤ vn := by omega
          have hnn0 : (0 : Int) ≤ nn := by omega
          by_cases hab0 : ab / 2 ^ nn = 0
          · have habi : (ab : Int) / 2 ^ nn = 0 := by
              have h1 : (ab : Int) / 2 ^ nn = ((ab / 2 ^ nn : Nat) : Int) := by
                rw [Int.natCast_ediv, Int.natCast_pow]
                rfl
              rw [h1, hab0]
              rfl
            have HABI := Lib.hid habi
            have HAB0 := Lib.hid hab0
            clear hab0
            go_upto_region 8 with fail
            have HV := Lib.hid hvn'
            by_cases hbt : ab.testBit vn = true
            · have hbi : (bits .and .u64 ((ab : Int) / 2 ^ vn) 1 == 1) = true := by rw [sbit_int hab]; exact hbt
              have HE := Lib.hid (show lvE xs ab (vn : Int) = 4 by unfold lvE; rw [HFM.out, if_pos rfl, HNN.out, if_neg (by rintro (h | h | h); omega; omega; exact h HAB0.out), Int.toNat_natCast, if_pos hbt])
              have HC := Lib.hid (show lvC xs ab (vn : Int) = 0 by unfold lvC; rw [HE.out]; rfl)
              clear hbt
              go_wp2
              go_ret2
              exact ⟨by rw [HE.out, HC.out]; rfl, HS.out⟩
            · have hbi : (bits .and .u64 ((ab : Int) / 2 ^ vn) 1 == 1) = false := by rw [sbit_int hab]; simpa using hbt
              have HE := Lib.hid (show lvE xs ab (vn : Int) = 0 by unfold lvE; rw [HFM.out, if_pos rfl, HNN.out, if_neg (by rintro (h | h | h); omega; omega; exact h HAB0.out), Int.toNat_natCast, if_neg hbt])
              have HC := Lib.hid (show lvC xs ab (vn : Int) = cntL nn vn (setAt nn (tSet xs) (bitsL nn ab)) by unfold lvC; rw [HE.out, if_pos rfl, HNN.out, Int.toNat_natCast])
              clear hbt
              have hFN : ∀ ws ∈ tSet xs, FormN nn ws := tSet_form HFM.out HND.out
              have HFN := Lib.hid hFN
              have hoks : ∀ t ∈ xs, TbOk w1 t ∧ t.N = (nn : Int) ∧ 0 < t.ws.length ∧ t.ws.length ≤ 1024 := fun t ht => by
                obtain ⟨h1, h2⟩ := fm_all HFM.out t ht
                have hne : xs ≠ [] := by rintro rfl; cases ht
                have h3 := form_len (hFN t.ws (mem_uniq.2 (List.mem_map.2 ⟨t, ht, rfl⟩))) hn16
                exact ⟨(HOK.out t ht).same HS.out, h2.trans (HND.out hne), h3.1, h3.2⟩
              have HOS := Lib.hid hoks
              clear hFN hoks
              go_wp2_with (fail)
              refine (sof_any _ n C xs (nn : Int) w1 (Sl.same H.out HS.out) HOS.out (by omega)).mono ?_
              rintro e w3 ⟨b, D, rfl, hs, hbw, hst⟩
              replace HS := Lib.hid (HS.out.trans hs (fun _ _ h => h))
              have HST := Lib.hid (hst.iff (M' := fun ws => ws ∈ tSet xs) (fun ws => by
                unfold tSet
                rw [mem_uniq, List.mem_map]
                exact ⟨fun ⟨t, h1, h2⟩ => ⟨t, h1, h2.symm⟩, fun ⟨t, h1, h2⟩ => ⟨t, h1, h2.symm⟩⟩))
              obtain ⟨L0, hL0⟩ : ∃ z, z = tSet xs := ⟨_, rfl⟩
              have hL0n : L0.length ≤ n := by rw [hL0, HXL.out]; exact tSet_len xs
              have hL0d : L0.Nodup := by rw [hL0]; exact uniq_nodup _
              rw [← hL0] at HST HC HFN
              have HL0D := Lib.hid hL0d
              have HL0N := Lib.hid hL0n
              clear hs hbw hst hL0 hL0d hL0n HOS hbi HABI
              go_wp2
              go_loopw [9, 44] (fun s i wi => ∃ (k b m lo : Nat) (D : DataW Value), k ≤ nn ∧ i = .int .i64 k ∧ s = .map (some b) ∧ Same w wi ∧ ST lo wi b m D (nn : Int) (fun ws => ws ∈ setAt nn L0 (bitsL k ab)) ∧ m ≤ 2 ^ k * n) (fun _ i _ => nn - (intOf i).toNat)
              case atStart => exact ⟨0, b, n, 0, D, by omega, rfl, rfl, HS.out, by simpa [setAt, bitsL] using HST.out, by simp⟩
              case round =>
                clear HS HST
                obtain ⟨k, b, m, lo, D, hk, rfl, rfl, hs, hst, hm⟩ := hrel
                have HMM := Lib.hid hm
                have HST := Lib.hid hst
                have HS := Lib.hid hs
                clear hm hst hs
                have hb1 : 65536 * n ≤ 1000000000000000000 := by omega
                have hk16 : k ≤ 16 := by omega
                have HHN := Lib.hid (show 2 ^ k * n ≤ 1000000000000000000 from Nat.le_trans (Nat.mul_le_mul_right n (Nat.pow_le_pow_right (Nat.le_succ 1) hk16)) hb1)
                have HHL := Lib.hid (show (setAt nn L0 (bitsL k ab)).length ≤ 1000000000000000000 from Nat.le_trans (setAt_len nn (bitsL k ab) L0) (Nat.le_trans (Nat.mul_le_mul (Nat.pow_le_pow_right (Nat.le_succ 1) (bits_len k ab)) HL0N.out) HHN.out))
                clear hb1
                by_cases hlt : k < nn
                · have hk0 : (0 : Int) ≤ k := by omega
                  have hk1 : (k : Int) < nn := by omega
                  by_cases hbk : ab.testBit k = true
                  · have hbi : (bits .and .u64 ((ab : Int) / 2 ^ k) 1 == 1) = true := by rw [sbit_int hab]; exact hbk
                    have HBS := Lib.hid (show bitsL (k + 1) ab = bitsL k ab ++ [k] by rw [bitsL_succ, if_pos hbk])
                    have HG := Lib.hid (given_any lo b m nn k D (setAt nn L0 (bitsL k ab)) wr HST.out (setAt_nodup _ HL0D.out) (setAt_form hn16 _ HFN.out) hlt hn16 (Nat.le_trans HMM.out HHN.out) HHL.out)
                    clear hbk
                    go_wp2_with (fail)
                    refine HG.out.mono ?_
                    rintro e w4 ⟨b', n', D', rfl, hs, _, hn', hst'⟩
                    have HS4 := Lib.hid (HS.out.trans hs (fun _ _ h => h))
                    have HST4 := Lib.hid (hst'.iff (M' := fun ws => ws ∈ setAt nn L0 (bitsL (k + 1) ab)) (fun ws => by rw [HBS.out, setAt_snoc, stepS_mem]))
                    have hm2 : 2 * (2 ^ k * n) = 2 ^ (k + 1) * n := by rw [Nat.pow_succ, Nat.mul_comm (2 ^ k) 2, Nat.mul_assoc]
                    have HM := Lib.hid (show n' ≤ 2 ^ (k + 1) * n from hm2 ▸ Nat.le_trans hn' (Nat.mul_le_mul_left 2 HMM.out))
                    clear hs hn' hst' hm2 HG hbi
                    go_wp2
                    go_roundw
                    case rel => exact ⟨k + 1, b', n', wr.heap.size, D', by omega, by go_num, rfl, HS4.out, HST4.out, HM.out⟩
                    case measure => simp [intOf] <;> omega
                  · have hbi : (bits .and .u64 ((ab : Int) / 2 ^ k) 1 == 1) = false := by rw [sbit_int hab]; simpa using hbk
                    have HBS := Lib.hid (show bitsL (k + 1) ab = bitsL k ab by rw [bitsL_succ, if_neg hbk, List.append_nil])
                    have HM := Lib.hid (show m ≤ 2 ^ (k + 1) * n from Nat.le_trans HMM.out (Nat.mul_le_mul_right n (Nat.pow_le_pow_right (Nat.le_succ 1) (Nat.le_succ k))))
                    clear hbk
                    go_wp2
                    go_roundw
                    case rel => exact ⟨k + 1, b, m, lo, D, by omega, by go_num, rfl, HS.out, by rw [HBS.out]; exact HST.out, HM.out⟩
                    case measure => simp [intOf] <;> omega
                · obtain rfl : k = nn := by omega
                  have HG := Lib.hid (given_any lo b m k vn D (setAt k L0 (bitsL k ab)) wr HST.out (setAt_nodup _ HL0D.out) (setAt_form hn16 _ HFN.out) (by omega) hn16 (Nat.le_trans HMM.out HHN.out) HHL.out)
                  go_wp2_with (fail)
                  refine HG.out.mono ?_
                  rintro e w4 ⟨b', n', D', rfl, hs, _, _, _⟩
                  have HS4 := Lib.hid (HS.out.trans hs (fun _ _ h => h))
                  clear hs HG
                  go_wp2
                  go_ret2
                  exact ⟨by rw [HE.out, HC.out]; rfl, HS4.out⟩
          · have habi : ((ab : Int) / 2 ^ nn != 0) = true := by
              have h1 : (ab : Int) / 2 ^ nn = ((ab / 2 ^ nn : Nat) : Int) := by
                rw [Int.natCast_ediv, Int.natCast_pow]
                rfl
              rw [h1]
              simp only [bne_iff_ne, ne_eq]
              omega
            have HE := Lib.hid (show lvE xs ab (vn : Int) = 2 by unfold lvE; rw [HFM.out, if_pos rfl, if_pos (.inr (.inr (by rw [HNN.out]; exact hab0)))])
            have HC := Lib.hid (show lvC xs ab (vn : Int) = 0 by unfold lvC; rw [HE.out]; rfl)
            go_wp2
            go_ret2
            exact ⟨by rw [HE.out, HC.out]; rfl, HS.out⟩
    · obtain ⟨t0, ht0⟩ : ∃ t, xs[0]? = some t := ⟨_, List.getElem?_eq_getElem (by rw [← HXL.out]; omega)⟩
      have hd0 : tN0 xs = t0.N := by unfold tN0; rw [List.getD_eq_getElem?_getD, ht0]; rfl
      obtain ⟨bl, o, hA, hbl, hc⟩ := (Sl.same H.out HS.out).get 0 t0 ht0
      have c0 : w1.cell? ⟨bl, o, none⟩ = some (.int .i64 t0.N) := by simpa [Tb.cells] using hc 0 (by omega)
      subst hA
      have hnp : (0 : Int) < n := by omega
      have hxn : xs.length ≠ 0 := by rw [← HXL.out]; exact hn0
      have hfr := (fm_all HFM.out t0 (List.mem_of_getElem? ht0)).1
      obtain ⟨nn, hnn, hfn⟩ := frm_true hfr
      have hn16 : nn ≤ 16 := hfn.n16
      have HNN := Lib.hid (show lvN xs = nn by unfold lvN; rw [if_neg hxn, hd0, hnn]; rfl)
      have HND := Lib.hid (show xs ≠ [] → tN0 xs = (nn : Int) from fun _ => hd0.trans hnn)
      rw [hnn] at c0
      clear hc ht0 hd0 hnn hfr hfn hxn hn0
      go_upto_region 6 with fail
      clear c0 hbl hnp
      by_cases hv0 : v < 0
      · have HE := Lib.hid (show lvE xs ab v = 2 by unfold lvE; rw [HFM.out, if_pos rfl, if_pos (.inl hv0)])
        have HC := Lib.hid (show lvC xs ab v = 0 by unfold lvC; rw [HE.out]; rfl)
        go_wp2
        go_ret2
        exact ⟨by rw [HE.out, HC.out]; rfl, HS.out⟩
      · have hv0' : ¬ v < 0 := hv0
        obtain ⟨vn, rfl⟩ := Int.eq_ofNat_of_zero_le (show 0 ≤ v by omega)
        clear hv0 hv0'
        by_cases hvn : nn ≤ vn
        · have hvn' : (nn : Int) ≤ vn := by omega
          have HE := Lib.hid (show lvE xs ab (vn : Int) = 2 by unfold lvE; rw [HFM.out, if_pos rfl, if_pos (.inr (.inl (by rw [HNN.out]; exact hvn')))])
          have HC := Lib.hid (show lvC xs ab (vn : Int) = 0 by unfold lvC; rw [HE.out]; rfl)
          go_wp2
          go_ret2
          exact ⟨by rw [HE.out, HC.out]; rfl, HS.out⟩
        · have hvn' : (vn : Int) < nn := by omega
          have hvn0 : (0 : Int) ≤ vn := by omega
          have hnn0 : (0 : Int) ≤ nn := by omega
          by_cases hab0 : ab / 2 ^ nn = 0
          · have habi : (ab : Int) / 2 ^ nn = 0 := by
              have h1 : (ab : Int) / 2 ^ nn = ((ab / 2 ^ nn : Nat) : Int) := by
                rw [Int.natCast_ediv, Int.natCast_pow]
                rfl
              rw [h1, hab0]
              rfl
            have HABI := Lib.hid habi
            have HAB0 := Lib.hid hab0
            clear hab0
            go_upto_region 8 with fail
            have HV := Lib.hid hvn'
            by_cases hbt : ab.testBit vn = true
            · have hbi : (bits .and .u64 ((ab : Int) / 2 ^ vn) 1 == 1) = true := by rw [sbit_int hab]; exact hbt
              have HE := Lib.hid (show lvE xs ab (vn : Int) = 4 by unfold lvE; rw [HFM.out, if_pos rfl, HNN.out, if_neg (by rintro (h | h | h); omega; omega; exact h HAB0.out), Int.toNat_natCast, if_pos hbt])
              have HC := Lib.hid (show lvC xs ab (vn : Int) = 0 by unfold lvC; rw [HE.out]; rfl)
              clear hbt
              go_wp2
              go_ret2
              exact ⟨by rw [HE.out, HC.out]; rfl, HS.out⟩
            · have hbi : (bits .and .u64 ((ab : Int) / 2 ^ vn) 1 == 1) = false := by rw [sbit_int hab]; simpa using hbt
              have HE := Lib.hid (show lvE xs ab (vn : Int) = 0 by unfold lvE; rw [HFM.out, if_pos rfl, HNN.out, if_neg (by rintro (h | h | h); omega; omega; exact h HAB0.out), Int.toNat_natCast, if_neg hbt])
              have HC := Lib.hid (show lvC xs ab (vn : Int) = cntL nn vn (setAt nn (tSet xs) (bitsL nn ab)) by unfold lvC; rw [HE.out, if_pos rfl, HNN.out, Int.toNat_natCast])
              clear hbt
              have hFN : ∀ ws ∈ tSet xs, FormN nn ws := tSet_form HFM.out HND.out
              have HFN := Lib.hid hFN
              have hoks : ∀ t ∈ xs, TbOk w1 t ∧ t.N = (nn : Int) ∧ 0 < t.ws.length ∧ t.ws.length ≤ 1024 := fun t ht => by
                obtain ⟨h1, h2⟩ := fm_all HFM.out t ht
                have hne : xs ≠ [] := by rintro rfl; cases ht
                have h3 := form_len (hFN t.ws (mem_uniq.2 (List.mem_map.2 ⟨t, ht, rfl⟩))) hn16
                exact ⟨(HOK.out t ht).same HS.out, h2.trans (HND.out hne), h3.1, h3.2⟩
              have HOS := Lib.hid hoks
              clear hFN hoks
              go_wp2_with (fail)
              refine (sof_any _ n C xs (nn : Int) w1 (Sl.same H.out HS.out) HOS.out (by omega)).mono ?_
              rintro e w3 ⟨b, D, rfl, hs, hbw, hst⟩
              replace HS := Lib.hid (HS.out.trans hs (fun _ _ h => h))
              have HST := Lib.hid (hst.iff (M' := fun ws => ws ∈ tSet xs) (fun ws => by
                unfold tSet
                rw [mem_uniq, List.mem_map]
                exact ⟨fun ⟨t, h1, h2⟩ => ⟨t, h1, h2.symm⟩, fun ⟨t, h1, h2⟩ => ⟨t, h1, h2.symm⟩⟩))
              obtain ⟨L0, hL0⟩ : ∃ z, z = tSet xs := ⟨_, rfl⟩
              have hL0n : L0.length ≤ n := by rw [hL0, HXL.out]; exact tSet_len xs
              have hL0d : L0.Nodup := by rw [hL0]; exact uniq_nodup _
              rw [← hL0] at HST HC HFN
              have HL0D := Lib.hid hL0d
              have HL0N := Lib.hid hL0n
              clear hs hbw hst hL0 hL0d hL0n HOS hbi HABI
              go_wp2
              go_loopw [9, 44] (fun s i wi => ∃ (k b m lo : Nat) (D : DataW Value), k ≤ nn ∧ i = .int .i64 k ∧ s = .map (some b) ∧ Same w wi ∧ ST lo wi b m D (nn : Int) (fun ws => ws ∈ setAt nn L0 (bitsL k ab)) ∧ m ≤ 2 ^ k * n) (fun _ i _ => nn - (intOf i).toNat)
              case atStart => exact ⟨0, b, n, 0, D, by omega, rfl, rfl, HS.out, by simpa [setAt, bitsL] using HST.out, by simp⟩
              case round =>
                clear HS HST
                obtain ⟨k, b, m, lo, D, hk, rfl, rfl, hs, hst, hm⟩ := hrel
                have HMM := Lib.hid hm
                have HST := Lib.hid hst
                have HS := Lib.hid hs
                clear hm hst hs
                have hb1 : 65536 * n ≤ 1000000000000000000 := by omega
                have hk16 : k ≤ 16 := by omega
                have HHN := Lib.hid (show 2 ^ k * n ≤ 1000000000000000000 from Nat.le_trans (Nat.mul_le_mul_right n (Nat.pow_le_pow_right (Nat.le_succ 1) hk16)) hb1)
                have HHL := Lib.hid (show (setAt nn L0 (bitsL k ab)).length ≤ 1000000000000000000 from Nat.le_trans (setAt_len nn (bitsL k ab) L0) (Nat.le_trans (Nat.mul_le_mul (Nat.pow_le_pow_right (Nat.le_succ 1) (bits_len k ab)) HL0N.out) HHN.out))
                clear hb1
                by_cases hlt : k < nn
                · have hk0 : (0 : Int) ≤ k := by omega
                  have hk1 : (k : Int) < nn := by omega
                  by_cases hbk : ab.testBit k = true
                  · have hbi : (bits .and .u64 ((ab : Int) / 2 ^ k) 1 == 1) = true := by rw [sbit_int hab]; exact hbk
                    have HBS := Lib.hid (show bitsL (k + 1) ab = bitsL k ab ++ [k] by rw [bitsL_succ, if_pos hbk])
                    have HG := Lib.hid (given_any lo b m nn k D (setAt nn L0 (bitsL k ab)) wr HST.out (setAt_nodup _ HL0D.out) (setAt_form hn16 _ HFN.out) hlt hn16 (Nat.le_trans HMM.out HHN.out) HHL.out)
                    clear hbk
                    go_wp2_with (fail)
                    refine HG.out.mono ?_
                    rintro e w4 ⟨b', n', D', rfl, hs, _, hn', hst'⟩
                    have HS4 := Lib.hid (HS.out.trans hs (fun _ _ h => h))
                    have HST4 := Lib.hid (hst'.iff (M' := fun ws => ws ∈ setAt nn L0 (bitsL (k + 1) ab)) (fun ws => by rw [HBS.out, setAt_snoc, stepS_mem]))
                    have hm2 : 2 * (2 ^ k * n) = 2 ^ (k + 1) * n := by rw [Nat.pow_succ, Nat.mul_comm (2 ^ k) 2, Nat.mul_assoc]
                    have HM := Lib.hid (show n' ≤ 2 ^ (k + 1) * n from hm2 ▸ Nat.le_trans hn' (Nat.mul_le_mul_left 2 HMM.out))
                    clear hs hn' hst' hm2 HG hbi
                    go_wp2
                    go_roundw
                    case rel => exact ⟨k + 1, b', n', wr.heap.size, D', by omega, by go_num, rfl, HS4.out, HST4.out, HM.out⟩
                    case measure => simp [intOf] <;> omega
                  · have hbi : (bits .and .u64 ((ab : Int) / 2 ^ k) 1 == 1) = false := by rw [sbit_int hab]; simpa using hbk
                    have HBS := Lib.hid (show bitsL (k + 1) ab = bitsL k ab by rw [bitsL_succ, if_neg hbk, List.append_nil])
                    have HM := Lib.hid (show m ≤ 2 ^ (k + 1) * n from Nat.le_trans HMM.out (Nat.mul_le_mul_right n (Nat.pow_le_pow_right (Nat.le_succ 1) (Nat.le_succ k))))
                    clear hbk
                    go_wp2
                    go_roundw
                    case rel => exact ⟨k + 1, b, m, lo, D, by omega, by go_num, rfl, HS.out, by rw [HBS.out]; exact HST.out, HM.out⟩
                    case measure => simp [intOf] <;> omega
                · obtain rfl : k = nn := by omega
                  have HG := Lib.hid (given_any lo b m k vn D (setAt k L0 (bitsL k ab)) wr HST.out (setAt_nodup _ HL0D.out) (setAt_form hn16 _ HFN.out) (by omega) hn16 (Nat.le_trans HMM.out HHN.out) HHL.out)
                  go_wp2_with (fail)
                  refine HG.out.mono ?_
                  rintro e w4 ⟨b', n', D', rfl, hs, _, _, _⟩
                  have HS4 := Lib.hid (HS.out.trans hs (fun _ _ h => h))
                  clear hs HG
                  go_wp2
                  go_ret2
                  exact ⟨by rw [HE.out, HC.out]; rfl, HS4.out⟩
          · have habi : ((ab : Int) / 2 ^ nn != 0) = true := by
              have h1 : (ab : Int) / 2 ^ nn = ((ab / 2 ^ nn : Nat) : Int) := by
                rw [Int.natCast_ediv, Int.natCast_pow]
                rfl
              rw [h1]
              simp only [bne_iff_ne, ne_eq]
              omega
            have HE := Lib.hid (show lvE xs ab (vn : Int) = 2 by unfold lvE; rw [HFM.out, if_pos rfl, if_pos (.inr (.inr (by rw [HNN.out]; exact hab0)))])
            have HC := Lib.hid (show lvC xs ab (vn : Int) = 0 by unfold lvC; rw [HE.out]; rfl)
            go_wp2
            go_ret2
            exact ⟨by rw [HE.out, HC.out]; rfl, HS.out⟩
end Go.Proofs.Ytjgndclfbcijmaa


/- Shape: the order of the variables above does not matter (plain). -/
namespace Go.Proofs.Ytjgndclfbcijmaa
open Go.RowKit Go.Tk Go.Maps

def hT (nn v : Nat) (b : Bool) (x : List Nat) : List Nat := tab nn (hfF v b x)
theorem stepS_hT {nn v : Nat} {L : List (List Nat)} {y : List Nat} : y ∈ stepS nn v L ↔ ∃ x ∈ L, ∃ b, y = hT nn v b x := by
  rw [stepS_mem]
  constructor
  · rintro ⟨x, h, rfl | rfl⟩
    · exact ⟨x, h, false, rfl⟩
    · exact ⟨x, h, true, rfl⟩
  · rintro ⟨x, h, b, rfl⟩
    cases b
    · exact ⟨x, h, .inl rfl⟩
    · exact ⟨x, h, .inr rfl⟩
theorem hT_comm {nn u v : Nat} (hu : u < nn) (hv : v < nn) (hne : u ≠ v) (b c : Bool) (x : List Nat) : hT nn u b (hT nn v c x) = hT nn v c (hT nn u b x) := by
  unfold hT
  refine tab_congr fun i hi => ?_
  show vb (tab nn (hfF v c x)) (wth i u b) = vb (tab nn (hfF u b x)) (wth i v c)
  rw [vb_tab (wth_lt hi hu), vb_tab (wth_lt hi hv)]
  show vb x (wth (wth i u b) v c) = vb x (wth (wth i v c) u b)
  rw [wth_comm hne]
def MemEq (L K : List (List Nat)) : Prop := ∀ y, y ∈ L ↔ y ∈ K
theorem stepS_mono {nn v : Nat} {L K : List (List Nat)} (h : MemEq L K) : MemEq (stepS nn v L) (stepS nn v K) := fun y => by
  rw [stepS_hT, stepS_hT]
  exact ⟨fun ⟨x, h1, h2⟩ => ⟨x, (h x).1 h1, h2⟩, fun ⟨x, h1, h2⟩ => ⟨x, (h x).2 h1, h2⟩⟩
theorem stepS_swap {nn u v : Nat} (hu : u < nn) (hv : v < nn) (L : List (List Nat)) : MemEq (stepS nn u (stepS nn v L)) (stepS nn v (stepS nn u L)) := by
  by_cases hne : u = v
  · subst hne; exact fun y => Iff.rfl
  · intro y
    rw [stepS_hT, stepS_hT]
    constructor
    · rintro ⟨x, h1, b, rfl⟩
      obtain ⟨z, h2, c, rfl⟩ := stepS_hT.1 h1
      exact ⟨hT nn u b z, stepS_hT.2 ⟨z, h2, b, rfl⟩, c, hT_comm hu hv hne b c z⟩
    · rintro ⟨x, h1, b, rfl⟩
      obtain ⟨z, h2, c, rfl⟩ := stepS_hT.1 h1
      exact ⟨hT nn v b z, stepS_hT.2 ⟨z, h2, b, rfl⟩, c, (hT_comm hu hv hne c b z).symm⟩
theorem setAt_cons (nn v : Nat) (L : List (List Nat)) (vs : List Nat) : setAt nn L (v :: vs) = setAt nn (stepS nn v L) vs := by simp only [setAt, List.foldl_cons]
theorem setAt_mono {nn : Nat} : ∀ (vs : List Nat) {L K : List (List Nat)}, MemEq L K → MemEq (setAt nn L vs) (setAt nn K vs)
  | [], _, _, h => h
  | v :: vs, L, K, h => by
    rw [setAt_cons, setAt_cons]
    exact setAt_mono vs (stepS_mono h)
theorem setAt_perm {nn : Nat} {vs us : List Nat} (h : vs.Perm us) : (∀ v ∈ vs, v < nn) → ∀ L, MemEq (setAt nn L vs) (setAt nn L us) := by
  induction h with
  | nil => exact fun _ _ _ => Iff.rfl
  | cons v _ ih =>
    intro hv L
    rw [setAt_cons, setAt_cons]
    exact ih (fun x hx => hv x (List.mem_cons_of_mem _ hx)) (stepS nn v L)
  | swap a b l =>
    intro hv L
    rw [setAt_cons, setAt_cons, setAt_cons, setAt_cons]
    exact setAt_mono l (stepS_swap (hv a (by simp)) (hv b (by simp)) L)
  | trans h1 _ ih1 ih2 =>
    intro hv L y
    exact (ih1 hv L y).trans (ih2 (fun v hx => hv v (h1.mem_iff.2 hx)) L y)
theorem cntL_eq {nn v : Nat} {L K : List (List Nat)} (hL : L.Nodup) (hK : K.Nodup) (h : MemEq L K) : cntL nn v L = cntL nn v K := by
  unfold cntL
  exact (((List.perm_ext_iff_of_nodup hL hK).2 h).filter _).length_eq
theorem cnt_perm {nn v : Nat} {L : List (List Nat)} (hL : L.Nodup) {vs us : List Nat} (hvs : vs.Nodup) (hus : us.Nodup) (h : ∀ x, x ∈ vs ↔ x ∈ us) (hv : ∀ x ∈ vs, x < nn) : cntL nn v (setAt nn L vs) = cntL nn v (setAt nn L us) :=
  cntL_eq (setAt_nodup _ hL) (setAt_nodup _ hL) (setAt_perm ((List.perm_ext_iff_of_nodup hvs hus).2 h) hv L)
/-- the variables above, as bits -/
def abv (vs : List Nat) : Nat := vs.foldl (fun a v => a ||| 2 ^ v) 0
theorem abv_snoc (vs : List Nat) (v : Nat) : abv (vs ++ [v]) = abv vs ||| 2 ^ v := by simp [abv]
theorem or_foldl_bit (u : Nat) : ∀ (vs : List Nat) (a : Nat), (vs.foldl (fun a v => a ||| 2 ^ v) a).testBit u = (a.testBit u || decide (u ∈ vs))
  | [], a => by simp
  | v :: vs, a => by
    rw [List.foldl_cons, or_foldl_bit u vs, Nat.testBit_or, Nat.testBit_two_pow]
    by_cases h : u = v
    · subst h; simp
    · have : ¬ v = u := fun h' => h h'.symm
      simp [h, this]
theorem abv_bit (vs : List Nat) (u : Nat) : (abv vs).testBit u = decide (u ∈ vs) := by
  unfold abv
  rw [or_foldl_bit]
  simp
theorem abv_lt {vs : List Nat} {nn : Nat} (h : ∀ v ∈ vs, v < nn) : abv vs < 2 ^ nn := Nat.lt_pow_two_of_testBit _ fun i hi => by
  rw [abv_bit, decide_eq_false_iff_not]
  intro hm
  have := h i hm
  omega
theorem bitsL_mem {nn ab u : Nat} : u ∈ bitsL nn ab ↔ u < nn ∧ ab.testBit u = true := by
  unfold bitsL
  rw [List.mem_filter, List.mem_range]
theorem bitsL_nodup (nn ab : Nat) : (bitsL nn ab).Nodup := List.nodup_range.filter _
theorem cnt_abv {nn v : Nat} {L : List (List Nat)} (hL : L.Nodup) {vs : List Nat} (hvs : vs.Nodup) (hv : ∀ x ∈ vs, x < nn) : cntL nn v (setAt nn L (bitsL nn (abv vs))) = cntL nn v (setAt nn L vs) :=
  cnt_perm hL (bitsL_nodup _ _) hvs (fun x => by rw [bitsL_mem, abv_bit, decide_eq_true_eq]; exact ⟨fun h => h.2, fun h => ⟨hv x h, h⟩⟩) (fun x hx => (bitsL_mem.1 hx).1)
/-- what Level answers under an order's beginning -/
theorem level_of {xs : List Tb} {os : List Int} {l : Nat} {v : Nat} (he : prE xs os = 0) (hne : xs ≠ []) (hper : IsPerm os) (hv : os[l]? = some (v : Int)) :
    lvE xs (abv ((os.map Int.toNat).take l)) v = 0 ∧ lvC xs (abv ((os.map Int.toNat).take l)) v = cntL os.length v (setAt os.length (tSet xs) ((os.map Int.toNat).take l)) := by
  have hfm : fm xs = true := by
    cases h : fm xs with
    | true => rfl
    | false => unfold prE at he; rw [h] at he; cases he
  have hN : tN0 xs = (os.length : Int) := by
    unfold prE at he
    rw [hfm, if_pos rfl] at he
    by_cases hc : (0 < xs.length ∧ (os.length : Int) ≠ tN0 xs) ∨ chk os = 4
    · rw [if_pos hc] at he; cases he
    · by_cases hh : (os.length : Int) = tN0 xs
      · exact hh.symm
      · exact absurd (.inl ⟨List.length_pos_iff.2 hne, hh⟩) hc
  have hlv : lvN xs = os.length := by
    unfold lvN
    rw [if_neg (by rw [List.length_eq_zero_iff]; exact hne), hN]
    rfl
  have hnd : (os.map Int.toNat).Nodup := by
    rw [List.nodup_iff_pairwise_ne, List.pairwise_map]
    refine List.Pairwise.imp_of_mem ?_ hper.2
    intro a b ha hb hab h
    have h1 := hper.1 a ha
    have h2 := hper.1 b hb
    omega
  have hlt : ∀ x ∈ (os.map Int.toNat).take l, x < os.length := fun x hx => by
    obtain ⟨y, hy, rfl⟩ := List.mem_map.1 (List.mem_of_mem_take hx)
    have := hper.1 y hy
    omega
  have hvl := lt_of_get hv
  have hvn := hper.1 _ (List.mem_of_getElem? hv)
  have hvk : (os.map Int.toNat)[l]? = some v := by rw [List.getElem?_map, hv]; rfl
  have hnot : v ∉ (os.map Int.toNat).take l := fun hm => by
    obtain ⟨j, hj⟩ := List.getElem?_of_mem hm
    have hjl : j < l := by
      have := lt_of_get hj
      rw [List.length_take] at this
      omega
    rw [List.getElem?_take_of_lt hjl] at hj
    have := (List.getElem?_inj (lt_of_get hj) hnd).1 (hj.trans hvk.symm)
    omega
  have hE : lvE xs (abv ((os.map Int.toNat).take l)) v = 0 := by
    unfold lvE
    rw [hfm, if_pos rfl, hlv, if_neg, Int.toNat_natCast, abv_bit, if_neg (by simpa using hnot)]
    rintro (h | h | h)
    · omega
    · omega
    · exact h (Nat.div_eq_of_lt (abv_lt hlt))
  refine ⟨hE, ?_⟩
  unfold lvC
  rw [if_pos hE, hlv, Int.toNat_natCast]
  exact cnt_abv (uniq_nodup _) (hnd.sublist (List.take_sublist _ _)) hlt
end Go.Proofs.Ytjgndclfbcijmaa


/- Shape: Pairs. -/
namespace Go.Proofs.Ytjgndclfbcijmaa
open Go.RowKit Go.Tk Go.Maps

def andB (s v : Nat) : Nat := s &&& (18446744073709551615 - 2 ^ v)
def pstep (v : Nat) (a : Nat) (t : Tb) : Nat := if (supN t.N t.ws).testBit v then a ||| andB (supN t.N t.ws) v else a
def prV (ts : List Tb) (v : Nat) : Nat := ts.foldl (pstep v) 0
theorem prV_snoc (ts : List Tb) (t : Tb) (v : Nat) : prV (ts ++ [t]) v = pstep v (prV ts v) t := by simp [prV]
def mixR (nn : Nat) (ts : List Tb) (t : Tb) (k : Nat) : List Nat := (List.range nn).map fun u => if u < k then prV (ts ++ [t]) u else prV ts u
def prRow (nn : Nat) (ts : List Tb) : List Nat := (List.range nn).map (prV ts)
theorem mixR_len (nn : Nat) (ts : List Tb) (t : Tb) (k : Nat) : (mixR nn ts t k).length = nn := by simp [mixR]
theorem prRow_len (nn : Nat) (ts : List Tb) : (prRow nn ts).length = nn := by simp [prRow]
theorem mixR_zero (nn : Nat) (ts : List Tb) (t : Tb) : mixR nn ts t 0 = prRow nn ts := by simp [mixR, prRow]
theorem mixR_all (nn : Nat) (ts : List Tb) (t : Tb) : mixR nn ts t nn = prRow nn (ts ++ [t]) := by
  unfold mixR prRow
  exact List.map_congr_left fun u hu => if_pos (List.mem_range.1 hu)
theorem prRow_nil (nn : Nat) : prRow nn [] = List.replicate nn 0 := by
  apply List.ext_getElem?
  intro i
  rcases Nat.lt_or_ge i nn with h | h
  · simp [prRow, prV, h]
  · rw [List.getElem?_eq_none (by rw [prRow_len]; exact h), List.getElem?_eq_none (by simpa using h)]
theorem mixR_get {nn : Nat} {ts : List Tb} {t : Tb} {k : Nat} (h : k < nn) : (mixR nn ts t k)[k]? = some (prV ts k) := by simp [mixR, h]
theorem mixR_set {nn : Nat} {ts : List Tb} {t : Tb} {k : Nat} (h : k < nn) : (mixR nn ts t k).set k (prV (ts ++ [t]) k) = mixR nn ts t (k + 1) := by
  apply List.ext_getElem?
  intro i
  rcases Nat.lt_or_ge i nn with hi | hi
  · rw [List.getElem?_set, mixR_len]
    simp only [mixR, List.getElem?_map, List.getElem?_range hi, Option.map_some]
    by_cases he : k = i
    · subst he; simp [h]
    · rw [if_neg he]
      congr 1
      by_cases h1 : i < k
      · rw [if_pos h1, if_pos (by omega)]
      · rw [if_neg h1, if_neg (by omega)]
  · rw [List.getElem?_eq_none (by simp [mixR_len, hi]), List.getElem?_eq_none (by rw [mixR_len]; exact hi)]
theorem mixR_skip {nn : Nat} {ts : List Tb} {t : Tb} {k : Nat} (h : (supN t.N t.ws).testBit k = false) : mixR nn ts t k = mixR nn ts t (k + 1) := by
  unfold mixR
  refine List.map_congr_left fun u _ => ?_
  by_cases h1 : u < k
  · rw [if_pos h1, if_pos (by omega)]
  · rw [if_neg h1]
    by_cases h2 : u < k + 1
    · obtain rfl : u = k := by omega
      rw [if_pos h2, prV_snoc, pstep, h]
      rfl
    · rw [if_neg h2]
theorem supN_lt (N : Int) (ws : List Nat) : supN N ws < 65536 := by
  unfold supN
  split
  · rename_i h
    have := frm_16 h
    exact Nat.lt_of_lt_of_le (bsum_lt _ _) (Nat.pow_le_pow_right (n := 2) (by omega) this)
  · omega
theorem andB_lt {s : Nat} (h : s < 65536) (v : Nat) : andB s v < 65536 := Nat.lt_of_le_of_lt Nat.and_le_left h
theorem pstep_lt {v a : Nat} (t : Tb) (h : a < 65536) : pstep v a t < 65536 := by
  unfold pstep
  split
  · exact Nat.or_lt_two_pow (n := 16) h (andB_lt (supN_lt _ _) v)
  · exact h
theorem prV_lt (v : Nat) : ∀ (ts : List Tb) (a : Nat), a < 65536 → ts.foldl (pstep v) a < 65536
  | [], _, h => h
  | t :: ts, _, h => prV_lt v ts _ (pstep_lt t h)
theorem andB_int {a s v : Nat} (ha : a < 65536) (hs : s < 65536) (hv : v < 16) : bits .or .u64 (a : Int) (bits .andNot .u64 (s : Int) (IntKind.u64.wrap (2 ^ v))) = ((a ||| andB s v : Nat) : Int) := by
  have h1 : (2 : Nat) ^ v ≤ 2 ^ 16 := Nat.pow_le_pow_right (by omega) (by omega)
  have h2 : (2 : Int) ^ v = ((2 ^ v : Nat) : Int) := by rw [Int.natCast_pow]; rfl
  have h3 := andB_lt hs v
  unfold andB at *
  rw [h2]
  generalize 2 ^ v = pw at *
  rw [IntWalk.u64_in _ (by omega), u64_andNot_nat s pw (by omega) (by omega)]
  exact u64_or_nat a _ (by omega) (by omega)
def paE (xs : List Tb) : Int := if fm xs then 0 else 5
def paR (xs : List Tb) : List Nat := if fm xs = true ∧ xs ≠ [] then prRow (tN0 xs).toNat xs else []
end Go.Proofs.Ytjgndclfbcijmaa


/- Shape: how many functions a level can have (plain). -/
namespace Go.Proofs.Ytjgndclfbcijmaa
open Go.RowKit Go.Tk Go.Maps

/-- the table does not hang on the variable -/
def Ind (nn u : Nat) (x : List Nat) : Prop := ∀ i, i < 2 ^ nn → ∀ c, vb x (wth i u c) = vb x i
theorem hT_vb {nn v i : Nat} (b : Bool) (x : List Nat) (hi : i < 2 ^ nn) : vb (hT nn v b x) i = vb x (wth i v b) := vb_tab hi
theorem ind_step {nn v : Nat} (hv : v < nn) (b : Bool) (x : List Nat) : Ind nn v (hT nn v b x) := fun i hi c => by
  rw [hT_vb b x (wth_lt hi hv), hT_vb b x hi, wth_twice]
theorem ind_keep {nn u v : Nat} (hu : u < nn) (hv : v < nn) (b : Bool) {x : List Nat} (h : Ind nn u x) : Ind nn u (hT nn v b x) := by
  by_cases he : u = v
  · subst he; exact ind_step hu b x
  · intro i hi c
    rw [hT_vb b x (wth_lt hi hu), hT_vb b x hi, wth_comm he]
    exact h _ (wth_lt hi hv) c
theorem ind_set {nn : Nat} : ∀ (vs : List Nat) (L : List (List Nat)) (D : Nat → Prop), (∀ u, D u → u < nn) → (∀ v ∈ vs, v < nn) → (∀ x ∈ L, ∀ u, D u → Ind nn u x) → ∀ y ∈ setAt nn L vs, ∀ u, D u ∨ u ∈ vs → Ind nn u y
  | [], L, D, _, _, h, y, hy, u, hu => by
    rcases hu with hu | hu
    · exact h y hy u hu
    · cases hu
  | v :: vs, L, D, hD, hv, h, y, hy, u, hu => by
    rw [setAt_cons] at hy
    refine ind_set vs (stepS nn v L) (fun u => D u ∨ u = v) (fun u hu => ?_) (fun w hw => hv w (List.mem_cons_of_mem _ hw)) (fun x hx u hu => ?_) y hy u ?_
    · rcases hu with hu | rfl
      · exact hD u hu
      · exact hv _ List.mem_cons_self
    · obtain ⟨z, hz, b, rfl⟩ := stepS_hT.1 hx
      rcases hu with hu | rfl
      · exact ind_keep (hD u hu) (hv v List.mem_cons_self) b (h z hz u hu)
      · exact ind_step (hv _ List.mem_cons_self) b z
    · rcases hu with hu | hu
      · exact .inl (.inl hu)
      · rcases List.mem_cons.1 hu with rfl | hu
        · exact .inl (.inr rfl)
        · exact .inr hu
/-- the point of the variables below, by their number -/
def pt : List Nat → Nat → Nat
  | [], _ => 0
  | u :: us, j => (if j % 2 = 1 then 2 ^ u else 0) ||| pt us (j / 2)
def ix : List Nat → Nat → Nat
  | [], _ => 0
  | u :: us, i => (if i.testBit u then 1 else 0) + 2 * ix us i
theorem ix_lt : ∀ (us : List Nat) (i : Nat), ix us i < 2 ^ us.length
  | [], _ => by simp [ix]
  | u :: us, i => by
    have := ix_lt us i
    rw [List.length_cons, Nat.pow_succ]
    unfold ix
    split <;> omega
theorem pt_ix : ∀ (us : List Nat) (i w : Nat), (pt us (ix us i)).testBit w = (decide (w ∈ us) && i.testBit w)
  | [], i, w => by simp [pt]
  | u :: us, i, w => by
    have hc : ix (u :: us) i = (if i.testBit u then 1 else 0) + 2 * ix us i := rfl
    have h1 : ix (u :: us) i % 2 = if i.testBit u then 1 else 0 := by rw [hc]; split <;> omega
    have h2 : ix (u :: us) i / 2 = ix us i := by rw [hc]; split <;> omega
    unfold pt
    rw [h1, h2, Nat.testBit_or, pt_ix us i w]
    by_cases hw : w = u
    · subst hw
      cases h : i.testBit w <;> simp
    · have hw' : ¬ u = w := fun h => hw h.symm
      cases h : i.testBit u <;> simp [hw, hw']
theorem pt_lt {nn : Nat} : ∀ (us : List Nat) (j : Nat), (∀ u ∈ us, u < nn) → pt us j < 2 ^ nn
  | [], _, _ => Nat.two_pow_pos _
  | u :: us, j, h => by
    unfold pt
    refine Nat.or_lt_two_pow ?_ (pt_lt us _ (fun w hw => h w (List.mem_cons_of_mem _ hw)))
    split
    · exact Nat.pow_lt_pow_right (by omega) (h u List.mem_cons_self)
    · exact Nat.two_pow_pos _
def clr : List Nat → Nat → Nat
  | [], i => i
  | u :: ds, i => clr ds (wth i u false)
theorem clr_bit : ∀ (ds : List Nat) (i w : Nat), (clr ds i).testBit w = (!decide (w ∈ ds) && i.testBit w)
  | [], i, w => by simp [clr]
  | u :: ds, i, w => by
    unfold clr
    rw [clr_bit ds, wth_bit]
    by_cases hw : w = u
    · subst hw; simp
    · simp [hw]
theorem clr_vb {nn : Nat} {x : List Nat} : ∀ (ds : List Nat) (i : Nat), i < 2 ^ nn → (∀ u ∈ ds, u < nn ∧ Ind nn u x) → vb x (clr ds i) = vb x i
  | [], _, _, _ => rfl
  | u :: ds, i, hi, h => by
    unfold clr
    have h1 := h u List.mem_cons_self
    rw [clr_vb ds _ (wth_lt hi h1.1) (fun w hw => h w (List.mem_cons_of_mem _ hw)), h1.2 i hi]
/-- what hangs on the variables us alone is told by its values at their points -/
theorem vb_pt {nn : Nat} {ds us : List Nat} {x : List Nat} (hd : ∀ u ∈ ds, u < nn ∧ Ind nn u x) (hsplit : ∀ w, w < nn → (w ∈ us ↔ ¬ w ∈ ds)) {i : Nat} (hi : i < 2 ^ nn) : vb x i = vb x (pt us (ix us i)) := by
  rw [← clr_vb ds i hi hd]
  congr 1
  refine Nat.eq_of_testBit_eq fun w => ?_
  rw [clr_bit, pt_ix]
  rcases Nat.lt_or_ge w nn with hw | hw
  · have := hsplit w hw
    by_cases h : w ∈ ds
    · simp [h, this]
    · simp [h, this.2 h]
  · rw [Nat.testBit_lt_two_pow (Nat.lt_of_lt_of_le hi (Nat.pow_le_pow_right (by omega) hw))]
    simp
theorem nodup_len {N : Nat} {l : List Nat} (hn : l.Nodup) (h : ∀ x ∈ l, x < N) : l.length ≤ N := by
  rcases Nat.lt_or_ge N l.length with hl | hl
  · have := (sub_perm l (List.range N) hn (fun x hx => List.mem_range.2 (h x hx)) (by rw [List.length_range]; omega)).length_eq
    rw [List.length_range] at this
    omega
  · exact hl
theorem map_nodup {α β : Type} {f : α → β} : ∀ {l : List α}, l.Nodup → (∀ x ∈ l, ∀ y ∈ l, f x = f y → x = y) → (l.map f).Nodup
  | [], _, _ => List.nodup_nil
  | a :: l, hn, h => by
    obtain ⟨h1, h2⟩ := List.nodup_cons.1 hn
    rw [List.map_cons, List.nodup_cons]
    refine ⟨fun hm => ?_, map_nodup h2 (fun x hx y hy => h x (List.mem_cons_of_mem _ hx) y (List.mem_cons_of_mem _ hy))⟩
    obtain ⟨b, hb, he⟩ := List.mem_map.1 hm
    have := h b (List.mem_cons_of_mem _ hb) a List.mem_cons_self he
    exact h1 (this ▸ hb)
/-- a function's values at the points, as one number -/
def cdN (us : List Nat) (x : List Nat) : Nat := bsum (fun j => vb x (pt us j)) (2 ^ us.length)
theorem cdN_lt (us x : List Nat) : cdN us x < 2 ^ 2 ^ us.length := bsum_lt _ _
theorem cdN_eq {nn : Nat} {ds us : List Nat} {x y : List Nat} (hx : ∀ u ∈ ds, u < nn ∧ Ind nn u x) (hy : ∀ u ∈ ds, u < nn ∧ Ind nn u y) (hsplit : ∀ w, w < nn → (w ∈ us ↔ ¬ w ∈ ds)) (h : cdN us x = cdN us y) : ∀ i, i < 2 ^ nn → vb x i = vb y i := fun i hi => by
  rw [vb_pt hx hsplit hi, vb_pt hy hsplit hi]
  have h1 := congrArg (fun z : Nat => z.testBit (ix us i)) h
  simp only [cdN, bsum_bit] at h1
  rw [decide_eq_true (ix_lt us i), Bool.true_and, Bool.true_and] at h1
  exact h1
theorem cnt_bound {nn v : Nat} {L : List (List Nat)} {ds us : List Nat} (hL : L.Nodup) (hf : ∀ x ∈ L, FormN nn x) (hs : ∀ x ∈ L, Small x) (hv : v < nn) (hd : ∀ x ∈ L, ∀ u ∈ ds, u < nn ∧ Ind nn u x) (hsplit : ∀ w, w < nn → (w ∈ us ↔ ¬ w ∈ v :: ds)) :
    cntL nn v L + 2 ^ 2 ^ us.length ≤ 2 ^ 2 ^ (us.length + 1) := by
  obtain ⟨M, hM⟩ : ∃ M, M = 2 ^ 2 ^ us.length := ⟨_, rfl⟩
  have hMM : 2 ^ 2 ^ (us.length + 1) = M * M := by rw [hM, Nat.pow_succ, Nat.mul_two, Nat.pow_add]
  rw [hMM, ← hM]
  have hc : ∀ x, cdN us x < M := fun x => by rw [hM]; exact cdN_lt us x
  have hdT : ∀ b, ∀ x ∈ L, ∀ u ∈ v :: ds, u < nn ∧ Ind nn u (hT nn v b x) := fun b x hx u hu => by
    rcases List.mem_cons.1 hu with rfl | hu
    · exact ⟨hv, ind_step hv b x⟩
    · exact ⟨(hd x hx u hu).1, ind_keep (hd x hx u hu).1 hv b (hd x hx u hu).2⟩
  obtain ⟨K, hK⟩ : ∃ K, K = L.filter (fun x => decide (loT nn v x ≠ hiT nn v x)) := ⟨_, rfl⟩
  have hKm : ∀ x ∈ K, x ∈ L ∧ loT nn v x ≠ hiT nn v x := fun x hx => by
    rw [hK, List.mem_filter, decide_eq_true_eq] at hx
    exact hx
  have hKn : K.Nodup := by rw [hK]; exact hL.filter _
  have hcnt : cntL nn v L = K.length := by rw [hK]; rfl
  obtain ⟨ph, hph⟩ : ∃ ph : List Nat → Nat, ∀ x, ph x = cdN us (hT nn v false x) * M + cdN us (hT nn v true x) := ⟨fun x => cdN us (hT nn v false x) * M + cdN us (hT nn v true x), fun _ => rfl⟩
  have hdm : ∀ p q p' q', p * M + q = p' * M + q' → q < M → q' < M → p = p' ∧ q = q' := fun p q p' q' h h1 h2 => by
    have e1 : (p * M + q) / M = p := by rw [Nat.mul_comm, Nat.mul_add_div (by omega), Nat.div_eq_of_lt h1, Nat.add_zero]
    have e2 : (p' * M + q') / M = p' := by rw [Nat.mul_comm, Nat.mul_add_div (by omega), Nat.div_eq_of_lt h2, Nat.add_zero]
    have e3 : p = p' := by rw [← e1, ← e2, h]
    subst e3
    exact ⟨rfl, by omega⟩
  have hinj : ∀ x ∈ K, ∀ y ∈ K, ph x = ph y → x = y := fun x hx y hy h => by
    rw [hph, hph] at h
    obtain ⟨h1, h2⟩ := hdm _ _ _ _ h (hc _) (hc _)
    have hxl := (hKm x hx).1
    have hyl := (hKm y hy).1
    have e1 := cdN_eq (hdT false x hxl) (hdT false y hyl) hsplit h1
    have e2 := cdN_eq (hdT true x hxl) (hdT true y hyl) hsplit h2
    rw [← tab_vb (hf x hxl) (hs x hxl), ← tab_vb (hf y hyl) (hs y hyl)]
    refine tab_congr fun i hi => ?_
    have e : ∀ z : List Nat, vb z i = vb (hT nn v (i.testBit v) z) i := fun z => by rw [hT_vb _ _ hi, wth_self]
    rw [e x, e y]
    cases i.testBit v
    · exact e1 i hi
    · exact e2 i hi
  have hlen : ((K.map ph) ++ (List.range M).map (fun p => p * M + p)).length ≤ M * M := by
    refine nodup_len (List.nodup_append.2 ⟨map_nodup hKn hinj, map_nodup List.nodup_range (fun p hp q hq h => ?_), fun a ha b hb hab => ?_⟩) (fun z hz => ?_)
    · exact (hdm p p q q h (List.mem_range.1 hp) (List.mem_range.1 hq)).1
    · obtain ⟨x, hx, rfl⟩ := List.mem_map.1 ha
      obtain ⟨p, hp, rfl⟩ := List.mem_map.1 hb
      rw [hph] at hab
      obtain ⟨h1, h2⟩ := hdm _ _ _ _ hab (hc _) (List.mem_range.1 hp)
      have hxl := (hKm x hx).1
      refine (hKm x hx).2 (tab_congr fun i hi => ?_)
      have := cdN_eq (hdT false x hxl) (hdT true x hxl) hsplit (h1.trans h2.symm) i hi
      rw [hT_vb _ _ hi, hT_vb _ _ hi] at this
      exact this
    · have hb : ∀ p q, p < M → q < M → p * M + q < M * M := fun p q h1 h2 => by
        have : (p + 1) * M ≤ M * M := Nat.mul_le_mul_right M h1
        rw [Nat.add_mul, Nat.one_mul] at this
        omega
      rcases List.mem_append.1 hz with hz | hz
      · obtain ⟨x, _, rfl⟩ := List.mem_map.1 hz
        rw [hph]
        exact hb _ _ (hc _) (hc _)
      · obtain ⟨p, hp, rfl⟩ := List.mem_map.1 hz
        exact hb p p (List.mem_range.1 hp) (List.mem_range.1 hp)
  rw [List.length_append, List.length_map, List.length_map, List.length_range] at hlen
  rw [hcnt]
  exact hlen
end Go.Proofs.Ytjgndclfbcijmaa


/- Permutations: Swapped of the program; Turned and DocSwapped of the reference. -/
namespace Go.Proofs.Ytjgndclfbcijmaa
open Go.RowKit Go.Tk

theorem swp_get (p : List Int) (l : Nat) {a b : Int} (ha : p[l]? = some a) (hb : p[l + 1]? = some b) : swp p l = (p.set l b).set (l + 1) a := by
  unfold swp
  simp [List.getD_eq_getElem?_getD, ha, hb]
/-- what Swapped answers -/
def swE (p : List Int) (l : Int) : Int := if l < 0 ∨ (p.length : Int) - 2 < l then 1 else chk p
def swL (p : List Int) (l : Int) : List Int := if swE p l = 0 then swp p l.toNat else []

end Go.Proofs.Ytjgndclfbcijmaa


/- Permutations: Identity, Inverse, Compose, Changes of both. -/
namespace Go.Proofs.Ytjgndclfbcijmaa
open Go.RowKit Go.Tk

/-- f at the first k places, noughts behind them -/
def fillL (f : Nat → Int) (n k : Nat) : List Int := (List.range n).map fun j : Nat => if j < k then f j else 0
theorem fillL_len (f : Nat → Int) (n k : Nat) : (fillL f n k).length = n := by simp [fillL]
theorem fillL_zero (f : Nat → Int) (n : Nat) : fillL f n 0 = List.replicate n 0 := by
  apply List.ext_getElem?
  intro j
  rcases Nat.lt_or_ge j n with h | h
  · simp [fillL, h]
  · rw [List.getElem?_eq_none (by rw [fillL_len]; exact h), List.getElem?_eq_none (by simpa using h)]
theorem fillL_full (f : Nat → Int) {n : Nat} {ys : List Int} (hl : ys.length = n) (h : ∀ j, j < n → ys[j]? = some (f j)) : fillL f n n = ys := by
  apply List.ext_getElem?
  intro j
  rcases Nat.lt_or_ge j n with hj | hj
  · rw [h j hj]; simp [fillL, hj]
  · rw [List.getElem?_eq_none (by rw [fillL_len]; exact hj), List.getElem?_eq_none (by omega)]
theorem fillL_set (f : Nat → Int) {n k : Nat} : (fillL f n k).set k (f k) = fillL f n (k + 1) := by
  apply List.ext_getElem?
  intro j
  rcases Nat.lt_or_ge j n with hj | hj
  · rw [List.getElem?_set, fillL_len]
    simp only [fillL, List.getElem?_map, List.getElem?_range hj, Option.map_some]
    split
    · rename_i he; subst he; simp <;> omega
    · rename_i he
      congr 1
      by_cases h : j < k
      · rw [if_pos h, if_pos (by omega)]
      · rw [if_neg h, if_neg (by omega)]
  · rw [List.getElem?_eq_none (by simp [fillL_len, hj]), List.getElem?_eq_none (by rw [fillL_len]; exact hj)]
/-- the places of the first k things -/
def invP (p : List Int) (k : Nat) : List Int := (List.range p.length).map fun j : Nat => if (j : Int) ∈ p.take k then plc p j else 0
theorem invP_len (p : List Int) (k : Nat) : (invP p k).length = p.length := by simp [invP]
theorem invP_zero (p : List Int) : invP p 0 = List.replicate p.length 0 := by
  apply List.ext_getElem?
  intro j
  rcases Nat.lt_or_ge j p.length with h | h
  · simp [invP, h]
  · rw [List.getElem?_eq_none (by rw [invP_len]; exact h), List.getElem?_eq_none (by simpa using h)]
theorem invL_get (p : List Int) {j : Nat} (h : j < p.length) : (invL p)[j]? = some (plc p j) := by simp [invL, rng_get h]
theorem invP_full {p : List Int} (h : IsPerm p) : invP p p.length = invL p := by
  apply List.ext_getElem?
  intro j
  rcases Nat.lt_or_ge j p.length with hj | hj
  · rw [invL_get p hj]
    simp [invP, hj, h.mem hj]
  · rw [List.getElem?_eq_none (by rw [invP_len]; exact hj), List.getElem?_eq_none (by rw [invL_len]; exact hj)]
theorem invP_set {p : List Int} (hn : p.Nodup) {k x : Nat} (h : p[k]? = some (x : Int)) : (invP p k).set x (k : Int) = invP p (k + 1) := by
  apply List.ext_getElem?
  intro j
  rcases Nat.lt_or_ge j p.length with hj | hj
  · rw [List.getElem?_set, invP_len]
    simp only [invP, List.getElem?_map, List.getElem?_range hj, Option.map_some, take_snoc h, List.mem_append, List.mem_singleton]
    split
    · rename_i he; subst he; simp [plc_get hn h] <;> omega
    · rename_i he
      have : ¬ ((j : Int) = (x : Int)) := by omega
      simp [this]
  · rw [List.getElem?_eq_none (by simp [invP_len, hj]), List.getElem?_eq_none (by rw [invP_len]; exact hj)]

def inE (p : List Int) : Int := chk p
def inL (p : List Int) : List Int := if chk p = 0 then invL p else []
end Go.Proofs.Ytjgndclfbcijmaa


/- Permutations: Inversions of both. -/
namespace Go.Proofs.Ytjgndclfbcijmaa
open Go.RowKit Go.Tk

theorem invC_le (p : List Int) : invC p ≤ p.length * p.length := by
  induction p with
  | nil => simp [invC]
  | cons x p ih =>
    have := List.countP_le_length (p := fun y => decide (x > y)) (l := p)
    simp only [invC, List.length_cons]
    rw [Nat.add_mul, Nat.mul_add]
    omega
theorem invC_le64 {p : List Int} (h : p.length ≤ 64) : invC p ≤ 4096 := Nat.le_trans (invC_le p) (Nat.mul_le_mul h h)
def incN (xs : List Int) : Nat := if chk xs = 0 then invC xs else 0
theorem countP_snoc {α : Type} (f : α → Bool) (l : List α) (x : α) : (l ++ [x]).countP f = l.countP f + if f x then 1 else 0 := by
  rw [List.countP_append, List.countP_cons, List.countP_nil, Nat.zero_add]

theorem drop_cons {α : Type} {l : List α} {k : Nat} {x : α} (h : l[k]? = some x) : l.drop k = x :: l.drop (k + 1) := by
  have hl := lt_of_get h
  rw [List.getElem?_eq_getElem hl] at h
  injection h with h
  rw [List.drop_eq_getElem_cons hl, h]
end Go.Proofs.Ytjgndclfbcijmaa


/- Permutations: Compose, Identity, Changes of both. -/
namespace Go.Proofs.Ytjgndclfbcijmaa
open Go.RowKit Go.Tk

theorem compL_len (p q : List Int) : (compL p q).length = q.length := by simp [compL]
theorem compL_get (p q : List Int) {j : Nat} {x : Int} (h : q[j]? = some x) : (compL p q)[j]? = some (p.getD x.toNat 0) := by simp [compL, h]
def coL (p q : List Int) : List Int := if both p q = 0 then compL p q else []
end Go.Proofs.Ytjgndclfbcijmaa


/- Permutations: Identity, Changes of both. -/
namespace Go.Proofs.Ytjgndclfbcijmaa
open Go.RowKit Go.Tk

/-- what Identity answers -/
def idE (n : Int) : Int := if n < 0 ∨ 64 < n then 1 else 0
def idR (n : Int) : List Int := if n < 0 ∨ 64 < n then [] else rng n.toNat
/-- the exchanges that go through all orders -/
def chL (k : Int) : List Int := if k = 2 then [0] else if k = 3 then [1, 0, 1, 0, 1] else if k = 4 then [2, 1, 0, 2, 0, 1, 2, 0, 2, 1, 0, 2, 0, 1, 2, 0, 2, 1, 0, 2, 0, 1, 2] else []
def chE (k : Int) : Int := if k = 2 ∨ k = 3 ∨ k = 4 then 0 else 1
theorem lit_new (w : World) (ys : List Int) (hm : ys.length ≤ 1000) {cs : Array Value} (hcs : cs = (ys.flatMap icell).toArray) : NewL w ys (some ⟨w.heap.size, 0, none⟩) ys.length (w.alloc (.cells cs 3)) :=
  ⟨Own.lit w 3 icell (fun _ => rfl) ys (show ys.length ≤ 9223372036854775807 by omega) hcs, fresh_some (Nat.le_refl _), (Frm.refl _ _).alloc _⟩
end Go.Proofs.Ytjgndclfbcijmaa


/- Permutations: Path of both. -/
namespace Go.Proofs.Ytjgndclfbcijmaa
open Go.RowKit Go.Tk

theorem plc_lt (p : List Int) (x : Int) : plc p x < p.length := by
  unfold plc
  split <;> omega
theorem plc_ge (p : List Int) (x : Int) : -1 ≤ plc p x := by unfold plc; split <;> omega
theorem pst_path_le (p q : List Int) : ∀ k, (pst p q k).2.length ≤ k * p.length
  | 0 => by simp [pst]
  | k + 1 => by
    rw [pst, bub_path, Nat.add_mul, Nat.one_mul]
    have := pst_path_le p q k
    have h1 := plc_lt (pst p q k).1 (q.getD k 0)
    rw [pst_len] at h1
    omega
theorem pst_path64 {p q : List Int} {k : Nat} (h : p.length ≤ 64) (hk : k ≤ 64) : (pst p q k).2.length ≤ 4096 := Nat.le_trans (pst_path_le p q k) (Nat.mul_le_mul hk h)
def paL (p q : List Int) : List Int := if both p q = 0 then pathL p q else []

end Go.Proofs.Ytjgndclfbcijmaa


/- Permutations: the reference's DocPath. -/
namespace Go.Tk
theorem Sl.frm {w w' : World} {S : Nat → Prop} {m : Nat} {α : Type} {f : α → List Value} {A : Option Addr} {n : Nat} {xs : List α} (h : Sl w m f A n xs) (hf : Frm S w w') (hs : 0 < xs.length → ∀ b, rowOf A b → ¬ S b) : Sl w' m f A n xs :=
  ⟨h.len, fun i x hi => by
    obtain ⟨b, off, h1, h2, h3⟩ := h.get i x hi
    have hl := lt_of_get hi
    exact ⟨b, off, h1, Nat.lt_of_lt_of_le h2 hf.size, fun j hj => by rw [← h3 j hj]; exact hf.cell (p := ⟨b, _, none⟩) h2 (hs (by omega) b ⟨_, h1, rfl⟩)⟩⟩
theorem Sl.row {w : World} {m : Nat} {α : Type} {f : α → List Value} {A : Option Addr} {n : Nat} {xs : List α} (h : Sl w m f A n xs) (h0 : 0 < xs.length) : ∀ b, rowOf A b → b < w.heap.size := by
  rintro b ⟨a, ha, rfl⟩
  obtain ⟨b, off, h1, h2, h3⟩ := h.get 0 _ (List.getElem?_eq_getElem h0)
  rw [h1] at ha
  injection ha with ha
  subst ha
  exact h2
end Go.Tk
namespace Go.Proofs.Ytjgndclfbcijmaa
open Go.RowKit Go.Tk

end Go.Proofs.Ytjgndclfbcijmaa


/- Permutations: Same of the reference; Rank of the program. -/
namespace Go.Proofs.Ytjgndclfbcijmaa
open Go.RowKit Go.Tk

/-- how many less ones follow the i-th -/
def lessC (xs : List Int) (i : Nat) : Nat := (xs.drop (i + 1)).countP (fun y => decide (y < xs.getD i 0))
def rkS (xs : List Int) : Nat → Nat
  | 0 => 0
  | k + 1 => rkS xs k * (xs.length - k) + lessC xs k
def fact : Nat → Nat
  | 0 => 1
  | n + 1 => (n + 1) * fact n
/-- n (n-1) .. (n-k+1) -/
def dsc (n : Nat) : Nat → Nat
  | 0 => 1
  | k + 1 => dsc n k * (n - k)
theorem fact_pos : ∀ n, 0 < fact n
  | 0 => by decide
  | n + 1 => by unfold fact; exact Nat.mul_pos (by omega) (fact_pos n)
theorem dsc_fact (n : Nat) : ∀ k, k ≤ n → dsc n k * fact (n - k) = fact n
  | 0, _ => by simp [dsc]
  | k + 1, h => by
    have ih := dsc_fact n k (by omega)
    rw [show n - k = (n - (k + 1)) + 1 by omega, fact] at ih
    rw [dsc, Nat.mul_assoc, show n - k = n - (k + 1) + 1 by omega]
    exact ih
theorem fact_le20 {n : Nat} (h : n ≤ 20) : fact n ≤ 2432902008176640000 := by
  have : ∀ n, n ≤ 20 → fact n ≤ 2432902008176640000 := by decide
  exact this n h
theorem dsc_le {n k : Nat} (h : n ≤ 20) (hk : k ≤ n) : dsc n k ≤ 2432902008176640000 := by
  have h1 := dsc_fact n k hk
  have h2 := Nat.le_mul_of_pos_right (dsc n k) (fact_pos (n - k))
  have h3 := fact_le20 h
  omega
theorem lessC_lt (xs : List Int) {k : Nat} (h : k < xs.length) : lessC xs k + k < xs.length := by
  unfold lessC
  have := List.countP_le_length (p := fun y => decide (y < xs.getD k 0)) (l := xs.drop (k + 1))
  rw [List.length_drop] at this
  omega
theorem rkS_lt (xs : List Int) : ∀ k, k ≤ xs.length → rkS xs k < dsc xs.length k
  | 0, _ => by simp [rkS, dsc]
  | k + 1, h => by
    have ih := rkS_lt xs k (by omega)
    have hl := lessC_lt xs (show k < xs.length by omega)
    rw [rkS, dsc]
    have h1 : (rkS xs k + 1) * (xs.length - k) ≤ dsc xs.length k * (xs.length - k) := Nat.mul_le_mul_right _ ih
    rw [Nat.add_mul, Nat.one_mul] at h1
    omega
def rkE (xs : List Int) : Int := if chk xs = 4 then 4 else if 20 < xs.length then 6 else 0
def rkV (xs : List Int) : Nat := if rkE xs = 0 then rkS xs xs.length else 0
end Go.Proofs.Ytjgndclfbcijmaa


/- Permutations: Same, by another name (for texts beside the tables' Same). -/
namespace Go.Proofs.Ytjgndclfbcijmaa
open Go.RowKit Go.Tk
end Go.Proofs.Ytjgndclfbcijmaa


/- Shape: one, awake. -/
namespace Go.Proofs.Ytjgndclfbcijmaa
open Go.RowKit Go.Tk Go.Maps

theorem aw_p8 (A : Option Addr) (C : Nat) : (prL [⟨2, A, C, [8]⟩] [0, 1]).sum = 2 := by kernel_rfl
theorem aw_e8 (A : Option Addr) (C : Nat) : prE [⟨2, A, C, [8]⟩] [0, 1] = 0 := by kernel_rfl
theorem aw_p6 (A : Option Addr) (C : Nat) : prL [⟨2, A, C, [6]⟩] [0, 1] = [1, 2] := by kernel_rfl
theorem aw_e6 (A : Option Addr) (C : Nat) : prE [⟨2, A, C, [6]⟩] [0, 1] = 0 := by kernel_rfl
theorem aw_l6 (A : Option Addr) (C : Nat) : lvC [⟨2, A, C, [6]⟩] 1 1 = 2 := by kernel_rfl
theorem aw_le (A : Option Addr) (C : Nat) : lvE [⟨2, A, C, [6]⟩] 1 1 = 0 := by kernel_rfl
end Go.Proofs.Ytjgndclfbcijmaa


/- Shape: ShapeSums: the walk. -/
namespace Go.Proofs.Ytjgndclfbcijmaa
open Go.RowKit Go.Tk Go.Maps

theorem setAt_nil (nn : Nat) : ∀ vs : List Nat, setAt nn [] vs = []
  | [] => rfl
  | v :: vs => by
    rw [setAt_cons]
    exact setAt_nil nn vs
theorem or_shift {ab v : Nat} (hab : ab < 65536) (hv : v < 16) : bits .or .u64 (ab : Int) (IntKind.u64.wrap (2 ^ v)) = ((ab ||| 2 ^ v : Nat) : Int) := by
  have h1 : (2 : Nat) ^ v ≤ 2 ^ 16 := Nat.pow_le_pow_right (by omega) (by omega)
  have h2 : (2 : Int) ^ v = ((2 ^ v : Nat) : Int) := by rw [Int.natCast_pow]; rfl
  rw [h2]
  generalize 2 ^ v = pw at *
  rw [IntWalk.u64_in _ (by omega)]
  exact u64_or_nat ab pw (by omega) (by omega)
theorem prE_16 {xs : List Tb} {os : List Int} (he : prE xs os = 0) : os.length ≤ 16 ∧ IsPerm os := by
  unfold prE at he
  cases hf : fm xs with
  | false => rw [hf] at he; cases he
  | true =>
    rw [hf, if_pos rfl] at he
    by_cases hc : (0 < xs.length ∧ (os.length : Int) ≠ tN0 xs) ∨ chk os = 4
    · rw [if_pos hc] at he; cases he
    · rw [if_neg hc] at he
      by_cases h16 : 16 < os.length
      · rw [if_pos h16] at he; cases he
      · refine ⟨by omega, ?_⟩
        by_cases hp : IsPerm os
        · exact hp
        · exact absurd (.inr (by unfold chk; rw [if_neg hp])) hc
end Go.Proofs.Ytjgndclfbcijmaa


/- Shape: ShapeBounds: the walk. -/
namespace Go.Proofs.Ytjgndclfbcijmaa
open Go.RowKit Go.Tk Go.Maps

theorem fm_of_ok {xs : List Tb} {os : List Int} (he : prE xs os = 0) : fm xs = true ∧ (xs ≠ [] → tN0 xs = (os.length : Int)) := by
  have hfm : fm xs = true := by
    cases h : fm xs with
    | true => rfl
    | false => unfold prE at he; rw [h] at he; cases he
  refine ⟨hfm, fun hne => ?_⟩
  unfold prE at he
  rw [hfm, if_pos rfl] at he
  by_cases hc : (0 < xs.length ∧ (os.length : Int) ≠ tN0 xs) ∨ chk os = 4
  · rw [if_pos hc] at he; cases he
  · by_cases hh : (os.length : Int) = tN0 xs
    · exact hh.symm
    · exact absurd (.inl ⟨List.length_pos_iff.2 hne, hh⟩) hc
theorem setAt_small {nn : Nat} : ∀ (vs : List Nat) {L : List (List Nat)}, (∀ x ∈ L, Small x) → ∀ x ∈ setAt nn L vs, Small x
  | [], _, h => h
  | v :: vs, L, h => by
    rw [setAt_cons]
    exact setAt_small vs fun x hx => by
      obtain ⟨y, _, b, rfl⟩ := stepS_hT.1 hx
      exact fun z hz => tab_lt z hz
/-- a level's number is not above what its place allows -/
theorem lev_bounds {xs : List Tb} {os : List Int} (hok : ∀ t ∈ xs, Small t.ws) (he : prE xs os = 0) {k v : Nat} (hv : os[k]? = some (v : Int)) :
    cntL os.length v (setAt os.length (tSet xs) ((os.map Int.toNat).take k)) ≤ xs.length * 2 ^ k ∧ cntL os.length v (setAt os.length (tSet xs) ((os.map Int.toNat).take k)) + 2 ^ 2 ^ (os.length - 1 - k) ≤ 2 ^ 2 ^ (os.length - 1 - k + 1) := by
  obtain ⟨h16, hper⟩ := prE_16 he
  obtain ⟨hfm, hN⟩ := fm_of_ok he
  have hkl := lt_of_get hv
  obtain ⟨vs, hvs⟩ : ∃ z, z = os.map Int.toNat := ⟨_, rfl⟩
  rw [← hvs]
  have hvl : vs.length = os.length := by rw [hvs, List.length_map]
  have hnd : vs.Nodup := by
    rw [hvs, List.nodup_iff_pairwise_ne, List.pairwise_map]
    refine List.Pairwise.imp_of_mem ?_ hper.2
    intro a b ha hb hab h
    have h1 := hper.1 a ha
    have h2 := hper.1 b hb
    omega
  have hlt : ∀ x ∈ vs, x < os.length := fun x hx => by
    rw [hvs] at hx
    obtain ⟨y, hy, rfl⟩ := List.mem_map.1 hx
    have := hper.1 y hy
    omega
  have hall : ∀ x, x < os.length → x ∈ vs := fun x hx => by
    rw [hvs]
    exact List.mem_map.2 ⟨(x : Int), hper.mem hx, Int.toNat_natCast x⟩
  have hvk : vs[k]? = some v := by rw [hvs, List.getElem?_map, hv]; rfl
  have hsp : vs = vs.take k ++ v :: vs.drop (k + 1) := by
    have h1 : vs.drop k = v :: vs.drop (k + 1) := by
      rw [List.drop_eq_getElem_cons (by omega)]
      congr 1
      have := List.getElem?_eq_getElem (l := vs) (i := k) (by omega)
      rw [this] at hvk
      exact Option.some.inj hvk
    rw [← h1, List.take_append_drop]
  have hus : (vs.drop (k + 1)).length = os.length - 1 - k := by rw [List.length_drop, hvl]; omega
  have hFN : ∀ ws ∈ tSet xs, FormN os.length ws := tSet_form hfm hN
  have hSM : ∀ ws ∈ tSet xs, Small ws := fun ws hw => by
    obtain ⟨t, ht, rfl⟩ := List.mem_map.1 (mem_uniq.1 hw)
    exact hok t ht
  constructor
  · refine Nat.le_trans (cnt_le _ _ _) (Nat.le_trans (setAt_len _ _ _) ?_)
    rw [Nat.mul_comm xs.length]
    refine Nat.mul_le_mul (Nat.pow_le_pow_right (by omega) (by rw [List.length_take]; omega)) (tSet_len xs)
  · rw [← hus]
    refine cnt_bound (ds := vs.take k) (setAt_nodup _ (uniq_nodup _)) (setAt_form h16 _ hFN) (setAt_small _ hSM) (hlt v (List.mem_of_getElem? hvk)) (fun x hx u hu => ⟨hlt u (List.mem_of_mem_take hu), ind_set (vs.take k) (tSet xs) (fun _ => False) (fun _ h => h.elim) (fun w hw => hlt w (List.mem_of_mem_take hw)) (fun _ _ _ h => h.elim) x hx u (.inr hu)⟩) (fun w hw => ?_)
    have hw2 := hall w hw
    have hnd2 := hnd
    rw [hsp] at hw2 hnd2
    obtain ⟨n1, n2, n3⟩ := List.nodup_append.1 hnd2
    obtain ⟨n4, n5⟩ := List.nodup_cons.1 n2
    constructor
    · intro h1 h2
      rcases List.mem_cons.1 h2 with rfl | h2
      · exact n4 h1
      · exact n3 w h2 w (List.mem_cons_of_mem _ h1) rfl
    · intro h1
      rcases List.mem_append.1 hw2 with h2 | h2
      · exact absurd (List.mem_cons_of_mem _ h2) h1
      · rcases List.mem_cons.1 h2 with rfl | h2
        · exact absurd List.mem_cons_self h1
        · exact h2
end Go.Proofs.Ytjgndclfbcijmaa


/- Shape: two levels exchanged (plain). -/
namespace Go.Proofs.Ytjgndclfbcijmaa
open Go.RowKit Go.Tk Go.Maps

def dep (nn u : Nat) (x : List Nat) : Prop := loT nn u x ≠ hiT nn u x
theorem ind_of {nn u : Nat} {x : List Nat} (h : ¬ dep nn u x) : Ind nn u x := fun i hi c => by
  have h1 : loT nn u x = hiT nn u x := Classical.not_not.1 h
  have h2 : vb x (wth i u false) = vb x (wth i u true) := by
    have h3 := congrArg (fun z => vb z i) h1
    simp only [loT, hiT] at h3
    rw [vb_tab hi, vb_tab hi] at h3
    exact h3
  have h4 := wth_self i u
  cases hb : i.testBit u <;> rw [hb] at h4 <;> cases c
  · rw [h4]
  · rw [← h2, h4]
  · rw [h2, h4]
  · rw [h4]
theorem dep_of_ind {nn u : Nat} {x : List Nat} (_hu : u < nn) (h : Ind nn u x) : ¬ dep nn u x := fun hd => by
  refine hd (tab_congr fun i hi => ?_)
  show vb x (wth i u false) = vb x (wth i u true)
  rw [h i hi, h i hi]
theorem hT_same {nn u : Nat} {x : List Nat} (hf : FormN nn x) (hs : Small x) (h : ¬ dep nn u x) (b : Bool) : hT nn u b x = x := by
  rw [← tab_vb hf hs]
  refine tab_congr fun i hi => ?_
  show vb (tab nn (vb x)) (wth i u b) = vb x i
  rw [tab_vb hf hs]
  exact ind_of h i hi b
theorem dep_hT {nn u v : Nat} {x : List Nat} (hu : u < nn) (hv : v < nn) {b : Bool} (h : dep nn u (hT nn v b x)) : dep nn u x := by
  refine Classical.byContradiction fun hn => ?_
  exact dep_of_ind hu (ind_keep hu hv b (ind_of hn)) h
theorem apart_set {nn u v : Nat} (hu : u < nn) (hv : v < nn) : ∀ (vs : List Nat) {L : List (List Nat)}, (∀ w ∈ vs, w < nn) → (∀ x ∈ L, ¬ (dep nn u x ∧ dep nn v x)) → ∀ x ∈ setAt nn L vs, ¬ (dep nn u x ∧ dep nn v x)
  | [], _, _, h => h
  | w :: vs, L, hw, h => by
    rw [setAt_cons]
    refine apart_set hu hv vs (fun z hz => hw z (List.mem_cons_of_mem _ hz)) fun x hx => ?_
    obtain ⟨y, hy, b, rfl⟩ := stepS_hT.1 hx
    rintro ⟨h1, h2⟩
    exact h y hy ⟨dep_hT hu (hw w List.mem_cons_self) h1, dep_hT hv (hw w List.mem_cons_self) h2⟩
theorem cnt_along {nn u v : Nat} {S : List (List Nat)} (hu : u < nn) (hv : v < nn) (hS : S.Nodup) (hf : ∀ x ∈ S, FormN nn x) (hs : ∀ x ∈ S, Small x) (h : ∀ x ∈ S, ¬ (dep nn u x ∧ dep nn v x)) : cntL nn u (stepS nn v S) = cntL nn u S := by
  unfold cntL
  refine ((List.perm_ext_iff_of_nodup ((uniq_nodup _).filter _) (hS.filter _)).2 fun y => ?_).length_eq
  rw [List.mem_filter, List.mem_filter, decide_eq_true_eq]
  constructor
  · rintro ⟨h1, h2⟩
    obtain ⟨x, hx, b, rfl⟩ := stepS_hT.1 h1
    have hd : dep nn u x := dep_hT hu hv h2
    have hn : ¬ dep nn v x := fun h3 => h x hx ⟨hd, h3⟩
    rw [hT_same (hf x hx) (hs x hx) hn] at h2 ⊢
    exact ⟨hx, h2⟩
  · rintro ⟨h1, h2⟩
    have hn : ¬ dep nn v y := fun h3 => h y h1 ⟨h2, h3⟩
    exact ⟨stepS_hT.2 ⟨y, h1, false, (hT_same (hf y h1) (hs y h1) hn false).symm⟩, h2⟩
theorem sup_dep {nn u : Nat} {ws : List Nat} (hf : FormN nn ws) (hu : u < nn) : (supN nn ws).testBit u = true ↔ dep nn u ws := by
  unfold supN
  rw [if_pos (frm_nat.2 hf), Int.toNat_natCast, bsum_bit, decide_eq_true hu, Bool.true_and]
  unfold depB dep loT hiT
  simp only [Bool.not_eq_true', decide_eq_false_iff_not, ne_eq]
theorem prV_bit {v w : Nat} (hv : v < 16) (hw : w < 16) (hne : w ≠ v) : ∀ (ts : List Tb) (a : Nat), (ts.foldl (pstep v) a).testBit w = true ↔ a.testBit w = true ∨ ∃ t ∈ ts, (supN t.N t.ws).testBit v = true ∧ (supN t.N t.ws).testBit w = true
  | [], a => by simp
  | t :: ts, a => by
    rw [List.foldl_cons, prV_bit hv hw hne ts]
    have hk : (pstep v a t).testBit w = true ↔ a.testBit w = true ∨ ((supN t.N t.ws).testBit v = true ∧ (supN t.N t.ws).testBit w = true) := by
      unfold pstep
      cases hb : (supN t.N t.ws).testBit v with
      | false => simp
      | true =>
        have h1 : (18446744073709551615 - 2 ^ v).testBit w = true := by
          have h2 : 18446744073709551615 - 2 ^ v = 2 ^ 64 - (2 ^ v + 1) := by omega
          rw [h2, Nat.testBit_two_pow_sub_succ (Nat.pow_lt_pow_right (by omega) (by omega)), Nat.testBit_two_pow_of_ne (fun h => hne h.symm)]
          simp
          omega
        simp [andB, Nat.testBit_or, Nat.testBit_and, h1]
    rw [hk]
    constructor
    · rintro ((h | h) | ⟨t', h1, h2⟩)
      · exact .inl h
      · exact .inr ⟨t, List.mem_cons_self, h⟩
      · exact .inr ⟨t', List.mem_cons_of_mem _ h1, h2⟩
    · rintro (h | ⟨t', h1, h2⟩)
      · exact .inl (.inl h)
      · rcases List.mem_cons.1 h1 with rfl | h1
        · exact .inl (.inr h2)
        · exact .inr ⟨t', h1, h2⟩
theorem cell_at {os : List Int} {k v : Nat} (hv : os[k]? = some (v : Int)) : (os.map Int.toNat)[k]? = some v := by rw [List.getElem?_map, hv]; rfl
theorem prl_at {xs : List Tb} {os : List Int} (he : prE xs os = 0) {k v : Nat} (hv : os[k]? = some (v : Int)) : (prL xs os)[k]? = some ((cntL os.length v (setAt os.length (tSet xs) ((os.map Int.toNat).take k)) : Nat) : Int) := by
  have hlt := lt_of_get hv
  unfold prL
  rw [if_pos he, proL, List.getElem?_map, List.getElem?_range hlt, Option.map_some, List.getD_eq_getElem?_getD, cell_at hv]
  rfl
theorem prE_swp {xs : List Tb} {os : List Int} {l : Nat} (h : l + 1 < os.length) (he : prE xs os = 0) : prE xs (swp os l) = 0 := by
  obtain ⟨h16, hper⟩ := prE_16 he
  obtain ⟨hfm, hN⟩ := fm_of_ok he
  have hp := IsPerm.swp hper h
  unfold prE
  rw [hfm, if_pos rfl, if_neg, swp_len, if_neg (by omega)]
  rintro (⟨h1, h2⟩ | h1)
  · rw [swp_len] at h2
    exact h2 (hN (List.length_pos_iff.1 h1)).symm
  · unfold chk at h1
    rw [if_pos hp] at h1
    split at h1 <;> cases h1
theorem nats_nodup {os : List Int} (h : IsPerm os) : (os.map Int.toNat).Nodup := by
  rw [List.nodup_iff_pairwise_ne, List.pairwise_map]
  refine List.Pairwise.imp_of_mem ?_ h.2
  intro a b ha hb hab he
  have h1 := h.1 a ha
  have h2 := h.1 b hb
  omega
theorem nats_lt {os : List Int} (h : IsPerm os) {k : Nat} : ∀ x ∈ (os.map Int.toNat).take k, x < os.length := fun x hx => by
  obtain ⟨y, hy, rfl⟩ := List.mem_map.1 (List.mem_of_mem_take hx)
  have := h.1 y hy
  omega
/-- the other levels keep their numbers -/
theorem loc_other {xs : List Tb} {os : List Int} {l : Nat} (h : l + 1 < os.length) (he : prE xs os = 0) {i : Nat} (h1 : i ≠ l) (h2 : i ≠ l + 1) : (prL xs (swp os l))[i]? = (prL xs os)[i]? := by
  obtain ⟨h16, hper⟩ := prE_16 he
  have hp := IsPerm.swp hper h
  rcases Nat.lt_or_ge i os.length with hi | hi
  · obtain ⟨v, hv, hvn⟩ := IsPerm.at hper hi
    have hv2 : (swp os l)[i]? = some (v : Int) := by rw [swp_at h, if_neg h1, if_neg h2, hv]
    rw [prl_at he hv, prl_at (prE_swp h he) hv2, swp_len]
    congr 2
    rcases Nat.lt_or_ge i l with hl | hl
    · have : (swp os l).take i = os.take i := by
        apply List.ext_getElem?
        intro j
        rw [List.getElem?_take, List.getElem?_take]
        split
        · rw [swp_at h, if_neg (by omega), if_neg (by omega)]
        · rfl
      rw [← List.map_take, this, List.map_take]
    · have hn1 := nats_nodup hp
      have hn2 := nats_nodup hper
      refine cnt_perm (uniq_nodup _) (hn1.sublist (List.take_sublist _ _)) (hn2.sublist (List.take_sublist _ _)) (fun x => ?_) (fun x hx => by have := nats_lt hp x hx; rwa [swp_len] at this)
      rw [← List.map_take, ← List.map_take, List.mem_map, List.mem_map]
      have hm : ∀ y, y ∈ (swp os l).take i ↔ y ∈ os.take i := fun y => by
        constructor
        · intro hy
          obtain ⟨j, hj⟩ := List.getElem?_of_mem hy
          rw [List.getElem?_take] at hj
          split at hj
          · rename_i hji
            rw [swp_at h] at hj
            refine List.mem_of_getElem? (i := if j = l then l + 1 else if j = l + 1 then l else j) ?_
            rw [List.getElem?_take]
            by_cases e1 : j = l
            · subst e1
              rw [if_pos rfl] at hj
              rw [if_pos rfl, if_pos (by omega)]; exact hj
            · by_cases e2 : j = l + 1
              · subst e2
                rw [if_neg e1, if_pos rfl] at hj
                rw [if_neg e1, if_pos rfl, if_pos (by omega)]; exact hj
              · rw [if_neg e1, if_neg e2] at hj
                rw [if_neg e1, if_neg e2, if_pos hji]; exact hj
          · cases hj
        · intro hy
          obtain ⟨j, hj⟩ := List.getElem?_of_mem hy
          rw [List.getElem?_take] at hj
          split at hj
          · rename_i hji
            refine List.mem_of_getElem? (i := if j = l then l + 1 else if j = l + 1 then l else j) ?_
            rw [List.getElem?_take]
            by_cases e1 : j = l
            · subst e1
              rw [if_pos rfl, if_pos (by omega), swp_at h, if_neg (by omega), if_pos rfl]; exact hj
            · by_cases e2 : j = l + 1
              · subst e2
                rw [if_neg e1, if_pos rfl, if_pos (by omega), swp_at h, if_pos rfl]; exact hj
              · rw [if_neg e1, if_neg e2, if_pos hji, swp_at h, if_neg e1, if_neg e2]; exact hj
          · cases hj
      exact ⟨fun ⟨y, h3, h4⟩ => ⟨y, (hm y).1 h3, h4⟩, fun ⟨y, h3, h4⟩ => ⟨y, (hm y).2 h3, h4⟩⟩
  · have e1 : (prL xs (swp os l)).length ≤ i := by have := prL_len xs (swp os l); rw [swp_len] at this; omega
    have e2 : (prL xs os).length ≤ i := by have := prL_len xs os; omega
    rw [List.getElem?_eq_none e1, List.getElem?_eq_none e2]
/-- where no function hangs on both, each takes its number along -/
theorem loc_along {xs : List Tb} {os : List Int} {l u v : Nat} (hok : ∀ t ∈ xs, Small t.ws) (he : prE xs os = 0) (hu : os[l]? = some (u : Int)) (hv : os[l + 1]? = some (v : Int)) (hap : ∀ t ∈ xs, ¬ (dep os.length u t.ws ∧ dep os.length v t.ws)) :
    (prL xs (swp os l))[l + 1]? = (prL xs os)[l]? ∧ (prL xs (swp os l))[l]? = (prL xs os)[l + 1]? := by
  obtain ⟨h16, hper⟩ := prE_16 he
  obtain ⟨hfm, hN⟩ := fm_of_ok he
  have h := lt_of_get hv
  have hul : u < os.length := by have := hper.1 _ (List.mem_of_getElem? hu); omega
  have hvl : v < os.length := by have := hper.1 _ (List.mem_of_getElem? hv); omega
  have hu2 : (swp os l)[l + 1]? = some (u : Int) := by rw [swp_at h, if_neg (by omega), if_pos rfl, hu]
  have hv2 : (swp os l)[l]? = some (v : Int) := by rw [swp_at h, if_pos rfl, hv]
  have ht : (swp os l).take l = os.take l := by
    apply List.ext_getElem?
    intro j
    rw [List.getElem?_take, List.getElem?_take]
    split
    · rw [swp_at h, if_neg (by omega), if_neg (by omega)]
    · rfl
  obtain ⟨S, hS⟩ : ∃ S, S = setAt os.length (tSet xs) ((os.map Int.toNat).take l) := ⟨_, rfl⟩
  have hFN : ∀ ws ∈ tSet xs, FormN os.length ws := tSet_form hfm hN
  have hSM : ∀ ws ∈ tSet xs, Small ws := fun ws hw => by
    obtain ⟨t, ht, rfl⟩ := List.mem_map.1 (mem_uniq.1 hw)
    exact hok t ht
  have hSn : S.Nodup := by rw [hS]; exact setAt_nodup _ (uniq_nodup _)
  have hSf : ∀ x ∈ S, FormN os.length x := by rw [hS]; exact setAt_form h16 _ hFN
  have hSs : ∀ x ∈ S, Small x := by rw [hS]; exact setAt_small _ hSM
  have hSa : ∀ x ∈ S, ¬ (dep os.length u x ∧ dep os.length v x) := by
    rw [hS]
    refine apart_set hul hvl _ (nats_lt hper) fun x hx => ?_
    obtain ⟨t, ht, rfl⟩ := List.mem_map.1 (mem_uniq.1 hx)
    exact hap t ht
  have t1 : (os.map Int.toNat).take (l + 1) = (os.map Int.toNat).take l ++ [u] := by rw [List.take_add_one, cell_at hu]; rfl
  have t2 : ((swp os l).map Int.toNat).take l = (os.map Int.toNat).take l := by rw [← List.map_take, ht, List.map_take]
  have t3 : ((swp os l).map Int.toNat).take (l + 1) = (os.map Int.toNat).take l ++ [v] := by rw [List.take_add_one, cell_at hv2, t2]; rfl
  rw [prl_at (prE_swp h he) hu2, prl_at he hu, prl_at (prE_swp h he) hv2, prl_at he hv, swp_len, t1, t2, t3, setAt_snoc, setAt_snoc, ← hS, cnt_along hul hvl hSn hSf hSs hSa, cnt_along hvl hul hSn hSf hSs (fun x hx h => hSa x hx ⟨h.2, h.1⟩)]
  exact ⟨rfl, rfl⟩
end Go.Proofs.Ytjgndclfbcijmaa


/- Truth tables: the reference's permutation. -/
namespace Go.Tk
theorem take_add1 {α : Type} {xs : List α} {k : Nat} {x : α} (h : xs[k]? = some x) : xs.take (k + 1) = xs.take k ++ [x] := by
  have hl := lt_get h
  rw [List.getElem?_eq_getElem hl] at h
  injection h with h
  rw [List.take_succ_eq_append_getElem hl, h]
theorem rng_count {n v : Nat} : (rng n).count (v : Int) = if v < n then 1 else 0 := by
  unfold rng
  induction n with
  | zero => simp
  | succ n ih =>
    rw [List.range_succ, List.map_append, List.count_append, ih, List.map_cons, List.map_nil, List.count_singleton]
    by_cases h2 : v = n
    · subst h2; simp
    · have h3 : ((n : Int) == (v : Int)) = false := by
        rw [beq_eq_false_iff_ne]
        omega
      rw [h3]
      by_cases h : v < n
      · rw [if_pos h, if_pos (show v < n + 1 by omega)]; rfl
      · rw [if_neg h, if_neg (show ¬ v < n + 1 by omega)]; rfl
def prmB (n : Nat) (p : List Int) : Bool := decide (p.length = n ∧ IsPerm p)
theorem prmB_true {n : Nat} {p : List Int} : prmB n p = true ↔ PermN n p := by
  unfold prmB
  rw [decide_eq_true_eq]
  exact ⟨fun h => ⟨h.1, h.2⟩, fun h => ⟨h.len, h.perm⟩⟩
theorem PermN.count {n : Nat} {p : List Int} (h : PermN n p) {v : Nat} (hv : v < n) : p.count (v : Int) = 1 := by
  rw [h.perm.perm.count_eq, rng_count, if_pos (by rw [h.len]; exact hv)]
theorem prm_of_count {n : Nat} {p : List Int} (hl : p.length = n) (h : ∀ v : Nat, v < n → p.count (v : Int) = 1) : PermN n p :=
  ⟨hl, isPerm_of_all fun v hv => List.count_pos_iff.1 (by rw [h v (by omega)]; omega)⟩
end Go.Tk
namespace Go.Proofs.Ytjgndclfbcijmaa
open Go.RowKit Go.Tk

end Go.Proofs.Ytjgndclfbcijmaa


/- Truth tables: the reference's DocRenamed. -/
namespace Go.Proofs.Ytjgndclfbcijmaa
open Go.RowKit Go.Tk

def rnE (N : Int) (p : List Int) (ws : List Nat) : Int := if frm N ws then (if prmB N.toNat p then 0 else 4) else 5
theorem renP_zero_vals (n M : Nat) (p : List Int) (ws : List Nat) : vals M (renP n p ws 0) = List.replicate M false := by
  rw [← vals_false M]
  exact vals_congr fun i _ => renP_zero i
end Go.Proofs.Ytjgndclfbcijmaa


/- Truth tables: Renamed of the program. -/
namespace Go.Tk
/-- which numbers stand among the first k -/
def seenL (xs : List Int) (k n : Nat) : List Bool := (List.range n).map fun j : Nat => decide ((j : Int) ∈ xs.take k)
theorem seenL_len (xs : List Int) (k n : Nat) : (seenL xs k n).length = n := by simp [seenL]
theorem seenL_get (xs : List Int) (k : Nat) {n j : Nat} (h : j < n) : (seenL xs k n)[j]? = some (decide ((j : Int) ∈ xs.take k)) := by simp [seenL, h]
theorem seenL_zero (xs : List Int) (n : Nat) : seenL xs 0 n = List.replicate n false := by
  apply List.ext_getElem?
  intro j
  rcases Nat.lt_or_ge j n with h | h
  · rw [seenL_get xs 0 h]; simp [h]
  · rw [List.getElem?_eq_none (by rw [seenL_len]; exact h), List.getElem?_eq_none (by simpa using h)]
theorem seenL_set {xs : List Int} {k n : Nat} {x : Nat} (h : xs[k]? = some (x : Int)) (hx : x < n) : (seenL xs k n).set x true = seenL xs (k + 1) n := by
  apply List.ext_getElem?
  intro j
  rcases Nat.lt_or_ge j n with hj | hj
  · rw [seenL_get xs (k + 1) hj, List.getElem?_set, seenL_len, seenL_get xs k hj, take_add1 h]
    split
    · rename_i he; subst he; simp
    · rename_i hne
      congr 1
      have : ¬ ((j : Int) = (x : Int)) := by omega
      simp [this]
  · rw [List.getElem?_eq_none (by simp [seenL_len, hj]), List.getElem?_eq_none (by rw [seenL_len]; exact hj)]
def GoodN (n : Nat) (xs : List Int) (k : Nat) : Prop := (∀ x, x ∈ xs.take k → 0 ≤ x ∧ x < n) ∧ (xs.take k).Nodup
theorem GoodN.next {n : Nat} {xs : List Int} {k : Nat} {x : Int} (h : GoodN n xs k) (hx : xs[k]? = some x) (h0 : 0 ≤ x) (h1 : x < n) (hn : x ∉ xs.take k) : GoodN n xs (k + 1) := by
  unfold GoodN
  rw [take_add1 hx]
  refine ⟨fun y hy => ?_, ?_⟩
  · rcases List.mem_append.1 hy with hy | hy
    · exact h.1 y hy
    · simp at hy; subst hy; exact ⟨h0, h1⟩
  · rw [List.nodup_append]
    exact ⟨h.2, by simp, fun a ha b hb => by simp at hb; subst hb; rintro rfl; exact hn ha⟩
theorem prmB_range {n : Nat} {xs : List Int} {k : Nat} {x : Int} (hx : xs[k]? = some x) (h : x < 0 ∨ (n : Int) ≤ x) : prmB n xs = false := by
  cases hp : prmB n xs with
  | false => rfl
  | true =>
    have h1 := prmB_true.1 hp
    have h2 := h1.perm.1 x (List.mem_of_getElem? hx)
    rw [h1.len] at h2
    omega
theorem prmB_dup {n : Nat} {xs : List Int} {k : Nat} {x : Int} (hx : xs[k]? = some x) (h : x ∈ xs.take k) : prmB n xs = false := by
  cases hp : prmB n xs with
  | false => rfl
  | true =>
    have h1 := prmB_true.1 hp
    have h3 : (xs.take (k + 1)).Nodup := h1.perm.2.sublist (List.take_sublist _ _)
    rw [take_add1 hx, List.nodup_append] at h3
    exact absurd rfl (h3.2.2 x h x (by simp))
theorem prmB_good {n : Nat} {xs : List Int} (h : GoodN n xs xs.length) (hl : xs.length = n) : PermN n xs := by
  unfold GoodN at h
  rw [List.take_length] at h
  exact ⟨hl, fun x hx => by rw [hl]; exact h.1 x hx, h.2⟩
theorem prmB_len {n : Nat} {xs : List Int} (h : xs.length ≠ n) : prmB n xs = false := by
  cases hp : prmB n xs with
  | false => rfl
  | true => exact absurd (prmB_true.1 hp).len h
theorem ren_zero (n : Nat) (p : List Int) (ws : List Nat) : ((List.range (nw n)).map fun _ => 0 &&& fullN n) = tab n (renP n p ws 0) := by
  unfold tab
  apply List.map_congr_left
  intro k _
  rw [Nat.zero_and]
  symm
  unfold word
  have : ∀ m, bsum (fun j => decide (64 * k + j < 2 ^ n) && renP n p ws 0 (64 * k + j)) m = 0 := by
    intro m
    induction m with
    | zero => rfl
    | succ m ih => rw [bsum, ih, renP_zero]; simp
  exact this 64
end Go.Tk
namespace Go.Proofs.Ytjgndclfbcijmaa
open Go.RowKit Go.Tk

theorem mul_le16 {b u : Nat} (hb : b < 2) (hu : u < 16) : b * 2 ^ u ≤ 65536 := by
  have hpu : 2 ^ u ≤ 65536 := pow_le16 (show u ≤ 16 by omega)
  have h01 : b = 0 ∨ b = 1 := by omega
  rcases h01 with rfl | rfl
  · rw [Nat.zero_mul]; exact Nat.zero_le _
  · rw [Nat.one_mul]; exact hpu
theorem step_i {k m u s t : Nat} (hk : k < 65536) (hu : u < 16) (hs : s < 65536) (ht : s ||| (k / 2 ^ m % 2) * 2 ^ u = t) : ∃ q b c : Nat, (k : Int) / 2 ^ m = (q : Int) ∧ bits .and .i64 (q : Int) 1 = (b : Int) ∧ wrap64 ((b : Int) * 2 ^ u) = (c : Int) ∧ IntKind.i64.wrap ((b : Int) * 2 ^ u) = (c : Int) ∧ bits .or .i64 (s : Int) (c : Int) = (t : Int) ∧ c ≤ 65536 ∧ b < 2 ∧ q < 65536 ∧ (b : Int) * 2 ^ u = (c : Int) := by
  have hqk : k / 2 ^ m ≤ k := Nat.div_le_self _ _
  have hd2 := i64_and_nat (k / 2 ^ m) 1 (by omega) (by omega)
  rw [nat_mask1] at hd2
  have hb2 : k / 2 ^ m % 2 < 2 := Nat.mod_lt _ (by omega)
  have hc := mul_le16 hb2 hu
  have hmul : ((k / 2 ^ m % 2 : Nat) : Int) * 2 ^ u = (((k / 2 ^ m % 2) * 2 ^ u : Nat) : Int) := by rw [pow_int, ← Int.natCast_mul]
  refine ⟨k / 2 ^ m, k / 2 ^ m % 2, (k / 2 ^ m % 2) * 2 ^ u, by rw [pow_int]; exact (Int.natCast_ediv _ _).symm, hd2, ?_, ?_, ?_, hc, hb2, by omega, hmul⟩
  · rw [hmul]
    generalize (k / 2 ^ m % 2) * 2 ^ u = c at hc
    exact IntWalk.wrap64_in _ (by omega)
  · rw [hmul]
    generalize (k / 2 ^ m % 2) * 2 ^ u = c at hc
    exact IntWalk.i64_in _ (by omega)
  · rw [← ht]
    generalize (k / 2 ^ m % 2) * 2 ^ u = c at hc
    exact i64_or_nat s c (by omega) (by omega)
theorem step_w {x y r1 r2 : Nat} {v : Bool} (hx : x < 18446744073709551616) (hy : y < 18446744073709551616) (hr : r2 < 64) (hv : v = y.testBit r1) :
    ∃ z b c : Nat, (y : Int) / 2 ^ r1 = (z : Int) ∧ bits .and .u64 (z : Int) 1 = (b : Int) ∧ IntKind.u64.wrap ((b : Int) * 2 ^ r2) = (c : Int) ∧ bits .or .u64 (x : Int) (c : Int) = ((x ||| (if v then 1 else 0) * 2 ^ r2 : Nat) : Int) ∧ b < 2 ∧ z < 18446744073709551616 ∧ c < 18446744073709551616 := by
  have hyq : y / 2 ^ r1 ≤ y := Nat.div_le_self _ _
  have hbit : y / 2 ^ r1 % 2 = if v then 1 else 0 := by
    rw [hv, Nat.testBit_eq_decide_div_mod_eq]
    rcases Nat.mod_two_eq_zero_or_one (y / 2 ^ r1) with h | h <;> rw [h] <;> rfl
  have hb1 : (if v then 1 else 0) < 2 := by split <;> omega
  have he2 := u64_and_nat (y / 2 ^ r1) 1 (by omega) (by omega)
  rw [nat_mask1, hbit] at he2
  have hpr : 2 ^ r2 ≤ 9223372036854775808 := show 2 ^ r2 ≤ 2 ^ 63 from Nat.pow_le_pow_right (by omega) (by omega)
  have hbp : (if v then 1 else 0) * 2 ^ r2 ≤ 9223372036854775808 := by
    cases v
    · rw [if_neg (by decide), Nat.zero_mul]; exact Nat.zero_le _
    · rw [if_pos rfl, Nat.one_mul]; exact hpr
  refine ⟨y / 2 ^ r1, if v then 1 else 0, (if v then 1 else 0) * 2 ^ r2, by rw [pow_int]; exact (Int.natCast_ediv _ _).symm, he2, ?_, ?_, hb1, by omega, by omega⟩
  · rw [pow_int, ← Int.natCast_mul]
    generalize (if v then 1 else 0) * 2 ^ r2 = bp at hbp
    exact IntWalk.u64_in _ (by omega)
  · generalize (if v then 1 else 0) * 2 ^ r2 = bp at hbp
    exact u64_or_nat x bp hx (by omega)
theorem dm64 (k : Nat) : (k : Int) / 64 = ((k / 64 : Nat) : Int) ∧ (k : Int) % 64 = ((k % 64 : Nat) : Int) ∧ k % 64 < 64 ∧ min (k % 64) 64 = k % 64 ∧ (0 : Int) ≤ ((k / 64 : Nat) : Int) := by
  refine ⟨by omega, by omega, by omega, by omega, by omega⟩
theorem ren1_any (i : Nat) (w : World) : Calls Try.prog 22 #[.int .i64 i] w fun e w' => e = .returned (.int .u64 ((0 : Nat) : Int)) ∧ w = w' := by
  go_enter Try.func22, Try.ntmps22
  go_wp2
  go_ret
  exact ⟨rfl, rfl⟩
set_option maxRecDepth 100000 in
set_option maxHeartbeats 16000000 in
theorem Renamed_any (Na : Int) (Aa : Option Addr) (Ca : Nat) (wsa : List Nat) (Ap : Option Addr) (Lp Cp : Nat) (p : List Int) (w : World) (h : TbOk w ⟨Na, Aa, Ca, wsa⟩) (hp : IL w Ap Lp p) (hLp : Lp ≤ 1000000000000000000) : Calls Try.prog 9 #[.agg #[.int .i64 Na, .slice Aa wsa.length Ca], .slice Ap Lp Cp] w (RetA w Na (tab Na.toNat (renF Na.toNat p wsa)) (rnE Na p wsa)) := by
  have H := Lib.hid h
  have HP := Lib.hid hp
  unfold rnE
  cases hfr : frm Na wsa with
  | false =>
    rw [if_neg (by decide)]
    unfold RetA
    rw [show ansN Na 5 = 0 from rfl, show ansL (tab Na.toNat (renF Na.toNat p wsa)) 5 = [] from rfl]
    have HFM := Lib.hid ((frm_one Na Aa Ca wsa).trans hfr)
    clear hfr hp h
    go_enter Try.func9, Try.ntmps9
    go_upto_region 1 with fail
    refine wp_world fun w1 hw1 => ?_
    have hs1 : Same w w1 := by rw [hw1]; exact ((Frm.refl _ _).alloc _).alloc _
    have hBXa : Blk w1 (w.heap.size) 30 #[.int .i64 Na, .slice Aa wsa.length Ca] := by
      rw [hw1]
      have := ((Blk.new w 30 #[.int .i64 Na, .slice Aa wsa.length Ca]).alloc (.cells #[.int .i64 0, .slice none 0 0] 30))
      simpa using this
    have hBR : Blk w1 (w.heap.size + 1) 30 #[.int .i64 0, .slice none 0 0] := by
      rw [hw1]
      have := (Blk.new (w.alloc (.cells #[.int .i64 Na, .slice Aa wsa.length Ca] 30)) 30 #[.int .i64 0, .slice none 0 0])
      simpa using this
    clear hw1
    obtain ⟨R, hR⟩ : ∃ b, w.heap.size + 1 = b := ⟨_, rfl⟩
    rw [hR] at hBR ⊢
    have leR : w.heap.size ≤ R := by omega
    have neXaR : w.heap.size ≠ R := by omega
    clear hR
    have cXa0 : w1.cell? ⟨w.heap.size, 0, none⟩ = some (.int .i64 Na) := hBXa.cell 0
    have cXa1 : w1.cell? ⟨w.heap.size, 1, none⟩ = some (.slice Aa wsa.length Ca) := hBXa.cell 1
    have lXa := hBXa.lt
    have fXa0 := hBXa.free 0
    have fXa1 := hBXa.free 1
    have HBXa := Lib.hid hBXa
    have cR0 : w1.cell? ⟨R, 0, none⟩ = some (.int .i64 0) := hBR.cell 0
    have cR1 : w1.cell? ⟨R, 1, none⟩ = some (.slice none 0 0) := hBR.cell 1
    have lR := hBR.lt
    have fR0 := hBR.free 0
    have fR1 := hBR.free 1
    have HBR := Lib.hid hBR
    have HS1 := Lib.hid hs1
    clear hs1 hBXa hBR
    have HOKa := Lib.hid (H.out.same HS1.out)
    go_wp2_with (fail)
    refine call_world fun w2 hw2 => ?_
    have hs2 : Same w1 w2 := by rw [hw2]; exact (Frm.refl _ _).alloc _
    have hBL : Blk w2 w1.heap.size 30 #[.int .i64 Na, .slice Aa wsa.length Ca] := by rw [hw2]; exact Blk.new _ _ _
    have htbs : Tbs w2 w1.heap.size [⟨Na, Aa, Ca, wsa⟩] := by
      intro i t hi
      match i, hi with
      | 0, hi =>
        simp only [List.getElem?_cons_zero, Option.some.injEq] at hi
        subst hi
        exact ⟨hBL.lt, hBL.cell 0, hBL.cell 1⟩
      | i + 1, hi => simp at hi
    have hfc := form_any w1.heap.size 1 1 [⟨Na, Aa, Ca, wsa⟩] w2 rfl (by decide) htbs (fun t ht => by
      simp only [List.mem_cons, List.not_mem_nil, or_false] at ht
      rcases ht with rfl
      · exact (HOKa.out).same hs2)
    rw [HFM.out] at hfc
    refine hfc.mono ?_
    clear hfc htbs hBL hw2
    rintro e w3 ⟨rfl, hs3⟩
    have hs13 : Same w1 w3 := hs2.trans hs3 (fun _ _ h => h)
    clear hs2 hs3
    replace HBXa := Lib.hid (HBXa.out.frm hs13 id)
    replace cXa0 : w3.cell? ⟨w.heap.size, 0, none⟩ = some (.int .i64 Na) := HBXa.out.cell 0
    replace cXa1 : w3.cell? ⟨w.heap.size, 1, none⟩ = some (.slice Aa wsa.length Ca) := HBXa.out.cell 1
    replace lXa := HBXa.out.lt
    replace fXa0 := HBXa.out.free 0
    replace fXa1 := HBXa.out.free 1
    replace HBR := Lib.hid (HBR.out.frm hs13 id)
    replace cR0 : w3.cell? ⟨R, 0, none⟩ = some (.int .i64 0) := HBR.out.cell 0
    replace cR1 : w3.cell? ⟨R, 1, none⟩ = some (.slice none 0 0) := HBR.out.cell 1
    replace lR := HBR.out.lt
    replace fR0 := HBR.out.free 0
    replace fR1 := HBR.out.free 1
    replace HS1 := Lib.hid (HS1.out.trans hs13 (fun _ _ h => h))
    clear hs13
    go_wp2
    refine wp_post fun we hwe => ?_
    have hBE : Blk we R 30 #[.int .i64 0, .slice none 0 0] := by
      rw [hwe]
      have := (HBR.out.set 0 (.int .i64 0)).set 1 (.slice none 0 0)
      simpa using this
    have hSE : Same w we := by rw [hwe]; exact (HS1.out.setNew 0 _ leR).setNew 1 _ leR
    have hr0 : we.cell? ⟨R, 0, none⟩ = some (.int .i64 0) := hBE.cell 0
    have hr1 : we.cell? ⟨R, 1, none⟩ = some (.slice none 0 0) := hBE.cell 1
    clear hwe hBE
    refine bodyPost_ret (v := .tuple #[.agg #[.int .i64 0, .slice none 0 0], .int .i64 5]) (by simp [results, Try.results9, go_sem, hr0, hr1]) rfl ?_
    exact ⟨none, 0, rfl, NewT.nil hSE⟩
  | true =>
    rw [if_pos rfl]
    obtain ⟨n, rfl, hform⟩ := frm_true hfr
    have HFM := Lib.hid ((frm_one n Aa Ca wsa).trans hfr)
    have hn := hform.n16
    rw [Int.toNat_natCast]
    have hpl := hp.len
    have hmk := fun w => run_make_n (P := Try.prog) Try.underlying56 info_bool .i64 .i64 n (show 1 * n ≤ 281474976710656 by omega) (show n ≤ 9223372036854775807 by omega) w
    obtain ⟨err, herr⟩ : ∃ e : Int, (if prmB n p = true then (0 : Int) else 4) = e := ⟨_, rfl⟩
    rw [herr]
    have HERR := Lib.hid herr
    have HPL := Lib.hid hpl
    have HFa := Lib.hid hform
    clear hfr hp h hpl herr hform
    unfold RetA
    go_enter Try.func9, Try.ntmps9
    go_upto_region 1 with fail
    refine wp_world fun w1 hw1 => ?_
    have hs1 : Same w w1 := by rw [hw1]; exact ((Frm.refl _ _).alloc _).alloc _
    have hBXa : Blk w1 (w.heap.size) 30 #[.int .i64 n, .slice Aa wsa.length Ca] := by
      rw [hw1]
      have := ((Blk.new w 30 #[.int .i64 n, .slice Aa wsa.length Ca]).alloc (.cells #[.int .i64 0, .slice none 0 0] 30))
      simpa using this
    have hBR : Blk w1 (w.heap.size + 1) 30 #[.int .i64 0, .slice none 0 0] := by
      rw [hw1]
      have := (Blk.new (w.alloc (.cells #[.int .i64 n, .slice Aa wsa.length Ca] 30)) 30 #[.int .i64 0, .slice none 0 0])
      simpa using this
    clear hw1
    obtain ⟨R, hR⟩ : ∃ b, w.heap.size + 1 = b := ⟨_, rfl⟩
    rw [hR] at hBR ⊢
    have leR : w.heap.size ≤ R := by omega
    have neXaR : w.heap.size ≠ R := by omega
    clear hR
    have cXa0 : w1.cell? ⟨w.heap.size, 0, none⟩ = some (.int .i64 n) := hBXa.cell 0
    have cXa1 : w1.cell? ⟨w.heap.size, 1, none⟩ = some (.slice Aa wsa.length Ca) := hBXa.cell 1
    have lXa := hBXa.lt
    have fXa0 := hBXa.free 0
    have fXa1 := hBXa.free 1
    have HBXa := Lib.hid hBXa
    have cR0 : w1.cell? ⟨R, 0, none⟩ = some (.int .i64 0) := hBR.cell 0
    have cR1 : w1.cell? ⟨R, 1, none⟩ = some (.slice none 0 0) := hBR.cell 1
    have lR := hBR.lt
    have fR0 := hBR.free 0
    have fR1 := hBR.free 1
    have HBR := Lib.hid hBR
    have HS1 := Lib.hid hs1
    clear hs1 hBXa hBR
    have HOKa := Lib.hid (H.out.same HS1.out)
    go_wp2_with (fail)
    refine call_world fun w2 hw2 => ?_
    have hs2 : Same w1 w2 := by rw [hw2]; exact (Frm.refl _ _).alloc _
    have hBL : Blk w2 w1.heap.size 30 #[.int .i64 n, .slice Aa wsa.length Ca] := by rw [hw2]; exact Blk.new _ _ _
    have htbs : Tbs w2 w1.heap.size [⟨n, Aa, Ca, wsa⟩] := by
      intro i t hi
      match i, hi with
      | 0, hi =>
        simp only [List.getElem?_cons_zero, Option.some.injEq] at hi
        subst hi
        exact ⟨hBL.lt, hBL.cell 0, hBL.cell 1⟩
      | i + 1, hi => simp at hi
    have hfc := form_any w1.heap.size 1 1 [⟨n, Aa, Ca, wsa⟩] w2 rfl (by decide) htbs (fun t ht => by
      simp only [List.mem_cons, List.not_mem_nil, or_false] at ht
      rcases ht with rfl
      · exact (HOKa.out).same hs2)
    rw [HFM.out] at hfc
    refine hfc.mono ?_
    clear hfc htbs hBL hw2
    rintro e w3 ⟨rfl, hs3⟩
    have hs13 : Same w1 w3 := hs2.trans hs3 (fun _ _ h => h)
    clear hs2 hs3
    replace HBXa := Lib.hid (HBXa.out.frm hs13 id)
    replace cXa0 : w3.cell? ⟨w.heap.size, 0, none⟩ = some (.int .i64 n) := HBXa.out.cell 0
    replace cXa1 : w3.cell? ⟨w.heap.size, 1, none⟩ = some (.slice Aa wsa.length Ca) := HBXa.out.cell 1
    replace lXa := HBXa.out.lt
    replace fXa0 := HBXa.out.free 0
    replace fXa1 := HBXa.out.free 1
    replace HBR := Lib.hid (HBR.out.frm hs13 id)
    replace cR0 : w3.cell? ⟨R, 0, none⟩ = some (.int .i64 0) := HBR.out.cell 0
    replace cR1 : w3.cell? ⟨R, 1, none⟩ = some (.slice none 0 0) := HBR.out.cell 1
    replace lR := HBR.out.lt
    replace fR0 := HBR.out.free 0
    replace fR1 := HBR.out.free 1
    replace HS1 := Lib.hid (HS1.out.trans hs13 (fun _ _ h => h))
    clear hs13
    go_upto_region 4 with fail
    refine wp_world fun w5 hw5 => ?_
    have hsv : Same w3 w5 := by rw [hw5]; exact (Frm.refl _ _).alloc _
    have hOD : OwnB w5 (some ⟨w3.heap.size, 0, none⟩) n n (seenL p 0 n) := by
      rw [seenL_zero, hw5]
      have := Own.ofMade (m := 1) w3 4 (fun b : Bool => [.bool b]) (fun _ => rfl) (by decide) false n (show n ≤ 9223372036854775807 by omega) rfl
      simpa using this
    clear hw5 hmk
    obtain ⟨D, hD⟩ : ∃ D, w3.heap.size = D := ⟨_, rfl⟩
    rw [hD] at hOD ⊢
    have hneXaD : w.heap.size ≠ D := by have := HBXa.out.lt; omega
    have hneRD : R ≠ D := by have := HBR.out.lt; omega
    have hDn : w.heap.size ≤ D := by have := HS1.out.size; omega
    have HOD := Lib.hid hOD
    clear hD hOD
    replace HBXa := Lib.hid (HBXa.out.frm hsv id)
    replace cXa0 : w5.cell? ⟨w.heap.size, 0, none⟩ = some (.int .i64 n) := HBXa.out.cell 0
    replace cXa1 : w5.cell? ⟨w.heap.size, 1, none⟩ = some (.slice Aa wsa.length Ca) := HBXa.out.cell 1
    replace lXa := HBXa.out.lt
    replace fXa0 := HBXa.out.free 0
    replace fXa1 := HBXa.out.free 1
    replace HBR := Lib.hid (HBR.out.frm hsv id)
    replace cR0 : w5.cell? ⟨R, 0, none⟩ = some (.int .i64 0) := HBR.out.cell 0
    replace cR1 : w5.cell? ⟨R, 1, none⟩ = some (.slice none 0 0) := HBR.out.cell 1
    replace lR := HBR.out.lt
    replace fR0 := HBR.out.free 0
    replace fR1 := HBR.out.free 1
    replace HS1 := Lib.hid (HS1.out.trans hsv (fun _ _ h => h))
    clear hsv
    go_wp2
    go_loopw [24] (fun i wr => ∃ k : Nat, k ≤ Lp ∧ i = .int .i64 k ∧ GoodN n p k ∧ Same w wr ∧ Blk wr w.heap.size 30 #[.int .i64 n, .slice Aa wsa.length Ca] ∧ Blk wr R 30 #[.int .i64 0, .slice none 0 0] ∧ OwnB wr (some ⟨D, 0, none⟩) n n (seenL p k n)) (fun i _ => Lp - (intOf i).toNat)
    case atStart => exact ⟨0, by omega, rfl, ⟨by simp, by simp⟩, HS1.out, HBXa.out, HBR.out, HOD.out⟩
    case round =>
      obtain ⟨k, hk, rfl, hg, hs, hBXa, hBR, hOD⟩ := hrel
      replace HS1 := Lib.hid hs
      replace HBXa := Lib.hid hBXa
      replace HBR := Lib.hid hBR
      replace HOD := Lib.hid hOD
      have HG := Lib.hid hg
      clear cXa0 cXa1 fXa0 fXa1 lXa cR0 cR1 fR0 fR1 lR hs hBXa hBR hOD hg
      have cXa0 : wr.cell? ⟨w.heap.size, 0, none⟩ = some (.int .i64 n) := HBXa.out.cell 0
      have cXa1 : wr.cell? ⟨w.heap.size, 1, none⟩ = some (.slice Aa wsa.length Ca) := HBXa.out.cell 1
      have lXa := HBXa.out.lt
      have cR0 : wr.cell? ⟨R, 0, none⟩ = some (.int .i64 0) := HBR.out.cell 0
      have cR1 : wr.cell? ⟨R, 1, none⟩ = some (.slice none 0 0) := HBR.out.cell 1
      have lR := HBR.out.lt
      have fR0 := HBR.out.free 0
      have fR1 := HBR.out.free 1
      by_cases hlt : k < Lp
      · obtain ⟨x, hx⟩ : ∃ x, p[k]? = some x := ⟨_, List.getElem?_eq_getElem (by rw [← HPL.out]; exact hlt)⟩
        obtain ⟨bp, op, hA, hb, hc⟩ := (Sl.same HP.out HS1.out).at1 hx
        subst hA
        have hk0 : (0 : Int) ≤ k := by omega
        have hk1 : (k : Int) < Lp := by omega
        have HX := Lib.hid hx
        clear hx
        by_cases h0 : x < 0
        · have he : err = 4 := by rw [← HERR.out, prmB_range HX.out (.inl h0), if_neg (by decide)]
          subst he
          go_wp2
          refine wp_post fun we hwe => ?_
          have hBE : Blk we R 30 #[.int .i64 0, .slice none 0 0] := by
            rw [hwe]
            have := (HBR.out.set 0 (.int .i64 0)).set 1 (.slice none 0 0)
            simpa using this
          have hSE : Same w we := by rw [hwe]; exact (HS1.out.setNew 0 _ leR).setNew 1 _ leR
          have hr0 : we.cell? ⟨R, 0, none⟩ = some (.int .i64 0) := hBE.cell 0
          have hr1 : we.cell? ⟨R, 1, none⟩ = some (.slice none 0 0) := hBE.cell 1
          clear hwe hBE
          refine bodyPost_ret (v := .tuple #[.agg #[.int .i64 0, .slice none 0 0], .int .i64 4]) (by simp [results, Try.results9, go_sem, hr0, hr1]) rfl ?_
          exact ⟨none, 0, rfl, NewT.nil hSE⟩
        by_cases h1 : x ≥ n
        · have he : err = 4 := by rw [← HERR.out, prmB_range HX.out (.inr h1), if_neg (by decide)]
          subst he
          go_wp2
          refine wp_post fun we hwe => ?_
          have hBE : Blk we R 30 #[.int .i64 0, .slice none 0 0] := by
            rw [hwe]
            have := (HBR.out.set 0 (.int .i64 0)).set 1 (.slice none 0 0)
            simpa using this
          have hSE : Same w we := by rw [hwe]; exact (HS1.out.setNew 0 _ leR).setNew 1 _ leR
          have hr0 : we.cell? ⟨R, 0, none⟩ = some (.int .i64 0) := hBE.cell 0
          have hr1 : we.cell? ⟨R, 1, none⟩ = some (.slice none 0 0) := hBE.cell 1
          clear hwe hBE
          refine bodyPost_ret (v := .tuple #[.agg #[.int .i64 0, .slice none 0 0], .int .i64 4]) (by simp [results, Try.results9, go_sem, hr0, hr1]) rfl ?_
          exact ⟨none, 0, rfl, NewT.nil hSE⟩
        obtain ⟨y, rfl⟩ := Int.eq_ofNat_of_zero_le (show 0 ≤ x by omega)
        have hyl : y < n := by omega
        have hyl2 : (y : Int) < n := by omega
        have hy3 : ¬ n ≤ y := by omega
        have hgt := seenL_get p k hyl
        obtain ⟨sb, hsb, hsl, hsc⟩ := Own.at1 (c := fun b : Bool => .bool b) HOD.out hgt
        injection hsb with hsb
        injection hsb with hsb
        subst hsb
        have hfr := Own.free HOD.out y
        clear hgt
        by_cases hd : (y : Int) ∈ p.take k
        · have hd' : decide ((y : Int) ∈ p.take k) = true := by simpa using hd
          rw [hd'] at hsc
          have he : err = 4 := by rw [← HERR.out, prmB_dup HX.out hd, if_neg (by decide)]
          subst he
          clear hd hd'
          go_wp2
          refine wp_post fun we hwe => ?_
          have hBE : Blk we R 30 #[.int .i64 0, .slice none 0 0] := by
            rw [hwe]
            have := (HBR.out.set 0 (.int .i64 0)).set 1 (.slice none 0 0)
            simpa using this
          have hSE : Same w we := by rw [hwe]; exact (HS1.out.setNew 0 _ leR).setNew 1 _ leR
          have hr0 : we.cell? ⟨R, 0, none⟩ = some (.int .i64 0) := hBE.cell 0
          have hr1 : we.cell? ⟨R, 1, none⟩ = some (.slice none 0 0) := hBE.cell 1
          clear hwe hBE
          refine bodyPost_ret (v := .tuple #[.agg #[.int .i64 0, .slice none 0 0], .int .i64 4]) (by simp [results, Try.results9, go_sem, hr0, hr1]) rfl ?_
          exact ⟨none, 0, rfl, NewT.nil hSE⟩
        · have hd' : decide ((y : Int) ∈ p.take k) = false := by simpa using hd
          rw [hd'] at hsc
          have HD := Lib.hid hd
          clear hd hd'
          have hst := Own.put1 (c := fun b : Bool => .bool b) HOD.out (i := y) (by rw [seenL_len]; exact hyl) true
          rw [seenL_set HX.out hyl] at hst
          have HST := Lib.hid hst
          clear hst
          go_wp2
          go_roundw
          case rel => exact ⟨k + 1, by omega, by go_num, HG.out.next HX.out (by omega) (by omega) HD.out, HS1.out.setNew y _ hDn, HBXa.out.far (p := ⟨D, y, none⟩) hneXaD _, HBR.out.far (p := ⟨D, y, none⟩) hneRD _, HST.out⟩
          case measure => simp [intOf] <;> omega
      · obtain rfl : k = Lp := by omega
        by_cases hln : k ≠ n
        · have he : err = 4 := by rw [← HERR.out, prmB_len (by rw [← HPL.out]; exact hln), if_neg (by decide)]
          subst he
          have hln2 : (k : Int) ≠ n := by omega
          go_wp2
          refine wp_post fun we hwe => ?_
          have hBE : Blk we R 30 #[.int .i64 0, .slice none 0 0] := by
            rw [hwe]
            have := (HBR.out.set 0 (.int .i64 0)).set 1 (.slice none 0 0)
            simpa using this
          have hSE : Same w we := by rw [hwe]; exact (HS1.out.setNew 0 _ leR).setNew 1 _ leR
          have hr0 : we.cell? ⟨R, 0, none⟩ = some (.int .i64 0) := hBE.cell 0
          have hr1 : we.cell? ⟨R, 1, none⟩ = some (.slice none 0 0) := hBE.cell 1
          clear hwe hBE
          refine bodyPost_ret (v := .tuple #[.agg #[.int .i64 0, .slice none 0 0], .int .i64 4]) (by simp [results, Try.results9, go_sem, hr0, hr1]) rfl ?_
          exact ⟨none, 0, rfl, NewT.nil hSE⟩
        obtain rfl : n = k := by omega
        have hPN : PermN n p := prmB_good (by rw [← HPL.out]; exact HG.out) HPL.out.symm
        have he : err = 0 := by rw [← HERR.out, prmB_true.2 hPN, if_pos rfl]
        subst he
        rw [show ansN n 0 = n from rfl, show ansL (tab n (renF n p wsa)) 0 = tab n (renF n p wsa) from rfl]
        have hsgl := fun (j k : Nat) (h : k ≤ n) => sg_lt hPN j k h
        have hsgo := fun (j k : Nat) (h : k < n) => sg_or hPN j h
        have hpvl := fun (v : Nat) (h : v < n) => hPN.lt h
        have hp0 : ∀ x ∈ p, 0 ≤ x := fun x hx => (hPN.perm.1 x hx).1
        have hset := fun (k : Nat) (h : k < 2 ^ n) => ren_word (ws := wsa) hPN h
        have hfull : tab n (renP n p wsa (2 ^ n)) = tab n (renF n p wsa) := tab_congr fun i _ => renP_full i
        have hdl : ∀ i, i < 2 ^ n → i / 64 < nw n := fun i hi => div_lt_nw hi
        have hdl2 : ∀ i, i < 2 ^ n → ∃ x, wsa[i / 64]? = some x := fun i hi => ⟨_, List.getElem?_eq_getElem (by rw [HFa.out.len]; exact div_lt_nw hi)⟩
        have hsw := pow_lt_shift hn
        have hsw2 := pow_lt_shift2 hn
        have hp16 := pow_le16 hn
        have hn0 : (0 : Int) ≤ n := by omega
        have hmn : min n 64 = n := by omega
        have hen : ∀ (args : Array Value) (w : World), (callFunc 22 args).run Try.prog w = .ok (.enter 22 args) w := enters_of Try.func22 (by kernel_rfl) rfl
        have HEN := Lib.hid hen
        have htl : Tells wr n 22 #[] (fun _ => 0) := fun i hi => ⟨by show (0 : Nat) < 18446744073709551616; omega, fun w' hs' => by
          refine (ren1_any i w').mono ?_
          rintro e w'' ⟨rfl, rfl⟩
          exact ⟨rfl, Frm.refl _ _⟩⟩
        have HTL := Lib.hid htl
        have hmf : ∀ (fn : Fn) (first cap : Array Value) (w : World), (Instr.makeFunc fn first cap).run Try.prog w = .ok (.func fn first cap) w := fun _ _ _ _ => rfl
        obtain ⟨M, hM⟩ : ∃ M, 2 ^ n = M := ⟨_, rfl⟩
        rw [hM] at hsgl hset hfull hdl hdl2 hsw hsw2 hp16
        have HSG := Lib.hid hsgl
        have HSO := Lib.hid hsgo
        have HPV := Lib.hid hpvl
        have HP0 := Lib.hid hp0
        have HSET := Lib.hid hset
        have HFULL := Lib.hid hfull
        have HDL := Lib.hid hdl
        have HDL2 := Lib.hid hdl2
        clear hsgl hsgo hpvl hp0 hset hfull hdl hdl2 hen htl hM hPN
        go_wp2_with (fail)
        refine (laid_any n 22 #[] (fun _ => 0) wr hn HEN.out HTL.out).mono ?_
        rintro e w6 ⟨Aq, Cq, rfl, hNT⟩
        rw [ren_zero n p wsa] at hNT ⊢
        obtain ⟨sb, rfl, hsbl⟩ := Own.form1 hNT.1 (by rw [tab_len]; exact nw_pos n)
        have hsbn : wr.heap.size ≤ sb := hNT.2.1 sb ⟨_, rfl, rfl⟩
        have hOT := hNT.1
        have hsv := hNT.2.2
        rw [tab_len] at hOT ⊢
        obtain ⟨K, hK⟩ : ∃ K, nw n = K := ⟨_, rfl⟩
        rw [hK] at hOT HDL ⊢
        have hneXs : w.heap.size ≠ sb := by omega
        have hneRs : R ≠ sb := by omega
        have hsbW : w.heap.size ≤ sb := by omega
        have HOT := Lib.hid hOT
        have hKl : (ansL (tab n (renF n p wsa)) 0).length = K := by rw [show ansL (tab n (renF n p wsa)) 0 = tab n (renF n p wsa) from rfl, tab_len, hK]
        have HKL := Lib.hid hKl
        have hKn := fun k => (tab_len n (renP n p wsa k)).trans hK
        have HKN := Lib.hid hKn
        clear hNT hOT hK hKl hKn hneXaD hneRD hDn HOD
        replace HBXa := Lib.hid (HBXa.out.frm hsv id)
        replace HBR := Lib.hid (HBR.out.frm hsv id)
        replace HS1 := Lib.hid (HS1.out.trans hsv (fun _ _ h => h))
        clear cXa0 cXa1 lXa cR0 cR1 lR fR0 fR1
        have cXa0 : w6.cell? ⟨w.heap.size, 0, none⟩ = some (.int .i64 n) := HBXa.out.cell 0
        have cXa1 : w6.cell? ⟨w.heap.size, 1, none⟩ = some (.slice Aa wsa.length Ca) := HBXa.out.cell 1
        have lXa := HBXa.out.lt
        have cR0 : w6.cell? ⟨R, 0, none⟩ = some (.int .i64 0) := HBR.out.cell 0
        have cR1 : w6.cell? ⟨R, 1, none⟩ = some (.slice none 0 0) := HBR.out.cell 1
        have lR := HBR.out.lt
        have fR0 := HBR.out.free 0
        have fR1 := HBR.out.free 1
        go_upto_region 14 with fail
        refine wp_world fun w7 hw7 => ?_
        have hsv : Same w6 w7 := by rw [hw7]; exact (Frm.refl _ _).alloc _
        have hBT : Blk w7 w6.heap.size 30 #[.int .i64 n, .slice (some ⟨sb, 0, none⟩) K Cq] := by rw [hw7]; exact Blk.new _ _ _
        clear hw7
        replace HBXa := Lib.hid (HBXa.out.frm hsv id)
        replace HBR := Lib.hid (HBR.out.frm hsv id)
        replace HS1 := Lib.hid (HS1.out.trans hsv (fun _ _ h => h))
        replace HOT := Lib.hid (Own.frm HOT.out hsv (fun _ _ => id))
        obtain ⟨T, hT⟩ : ∃ b, w6.heap.size = b := ⟨_, rfl⟩
        rw [hT] at hBT ⊢
        have hneTs : T ≠ sb := by omega
        have HBT := Lib.hid hBT
        clear hT hBT hsv hsbl cXa0 cXa1 lXa cR0 cR1 lR fR0 fR1
        have cXa0 : w7.cell? ⟨w.heap.size, 0, none⟩ = some (.int .i64 n) := HBXa.out.cell 0
        have cXa1 : w7.cell? ⟨w.heap.size, 1, none⟩ = some (.slice Aa wsa.length Ca) := HBXa.out.cell 1
        have lXa := HBXa.out.lt
        have cR0 : w7.cell? ⟨R, 0, none⟩ = some (.int .i64 0) := HBR.out.cell 0
        have cR1 : w7.cell? ⟨R, 1, none⟩ = some (.slice none 0 0) := HBR.out.cell 1
        have lR := HBR.out.lt
        have fR0 := HBR.out.free 0
        have fR1 := HBR.out.free 1
        go_wp2
        go_loopw [59] (fun i wr => ∃ k : Nat, k ≤ M ∧ i = .int .i64 k ∧ Same w wr ∧ Blk wr w.heap.size 30 #[.int .i64 n, .slice Aa wsa.length Ca] ∧ Blk wr R 30 #[.int .i64 0, .slice none 0 0] ∧ Blk wr T 30 #[.int .i64 n, .slice (some ⟨sb, 0, none⟩) K Cq] ∧ OwnW wr (some ⟨sb, 0, none⟩) K Cq (tab n (renP n p wsa k))) (fun i _ => M - (intOf i).toNat)
        case atStart => exact ⟨0, by omega, rfl, HS1.out, HBXa.out, HBR.out, HBT.out, HOT.out⟩
        case round =>
          obtain ⟨k, hk, rfl, hs, hBXa, hBR, hBT, hOT⟩ := hrel
          replace HS1 := Lib.hid hs
          replace HBXa := Lib.hid hBXa
          replace HBR := Lib.hid hBR
          replace HBT := Lib.hid hBT
          replace HOT := Lib.hid hOT
          clear cXa0 cXa1 lXa cR0 cR1 lR fR0 fR1 hs hBXa hBR hBT hOT
          by_cases hltM : k < M
          · have hk0 : (0 : Int) ≤ k := by omega
            have hk1 : (k : Int) < M := by omega
            go_wp2
            refine wp_world fun wq hwq => ?_
            subst hwq
            go_loopw [11, 64] (fun s i wi => ∃ m : Nat, m ≤ n ∧ i = .int .i64 m ∧ s = .int .i64 (sg p k m : Nat) ∧ wq = wi) (fun _ i _ => n - (intOf i).toNat)
            case atStart => exact ⟨0, by omega, rfl, rfl, rfl⟩
            case round =>
              obtain ⟨m, hm, rfl, rfl, rfl⟩ := hrel
              have hsl := HSG.out k m (by omega)
              by_cases hlm : m < n
              · obtain ⟨x, hx⟩ : ∃ x, p[m]? = some x := ⟨_, List.getElem?_eq_getElem (by rw [← HPL.out]; exact hlm)⟩
                obtain ⟨bp, op, hA, hb, hc⟩ := (Sl.same HP.out HS1.out).at1 hx
                have hpv := HPV.out m hlm
                have hx0 := HP0.out x (List.mem_of_getElem? hx)
                have hor := HSO.out k m hlm
                rw [pv_get hx] at hpv hor
                obtain ⟨u, rfl⟩ := Int.eq_ofNat_of_zero_le hx0
                rw [Int.toNat_natCast] at hpv hor
                subst hA
                have hm0 : (0 : Int) ≤ m := by omega
                have hm1 : (m : Int) < n := by omega
                obtain ⟨q, b, c, hd1, hd2, hd3, hd5, hd4, hc16, hb2, hq16, hd6⟩ := step_i (k := k) (m := m) (u := u) (by omega) (by omega) (by omega) hor
                have hu0 : (0 : Int) ≤ u := by omega
                have hmu : min u 64 = u := by omega
                have hmm : min m 64 = m := by omega
                clear hor hx
                go_wp2
                go_roundw
                case rel => exact ⟨m + 1, by omega, by go_num, rfl, trivial⟩
                case measure => simp [intOf] <;> omega
              · have hmn : m = n := by omega
                subst hmn
                obtain ⟨y, hy⟩ := HDL2.out k hltM
                have hyl := H.out.small.at1 hy
                have hkl : k / 64 < wsa.length := lt_get hy
                have hvb : vb wsa k = y.testBit (k % 64) := by unfold vb; rw [List.getD_eq_getElem?_getD, hy]; rfl
                obtain ⟨ba, offa, hAa, hbla, hca⟩ := WL.at1 (Sl.same H.out.wl HS1.out) hy
                simp only at hAa
                subst hAa
                have hset := HSET.out k hltM
                have hdk := HDL.out (sg p k m) hsl
                have hget : (tab m (renP m p wsa k))[sg p k m / 64]? = some (word m (renP m p wsa k) (sg p k m / 64)) := tab_get (by have := HKN.out k; rw [tab_len] at this; rw [this]; exact hdk)
                have hwl := word_lt m (renP m p wsa k) (sg p k m / 64)
                obtain ⟨sb', hsb', hsl2, hsc⟩ := HOT.out.at1 (c := fun x : Nat => .int .u64 (x : Int)) hget
                injection hsb' with hsb'
                injection hsb' with hsb'
                subst hsb'
                have hst := fun (w' : World) (hs' : Same wq w') => Own.put1 (c := fun x : Nat => .int .u64 (x : Int)) (Own.frm HOT.out hs' (fun _ _ => id)) (i := sg p k m / 64) (by rw [HKN.out]; exact hdk) (word m (renP m p wsa k) (sg p k m / 64) ||| (if vb wsa k then 1 else 0) * 2 ^ (sg p k m % 64))
                rw [hset] at hst
                obtain ⟨hn1, hn2, hr1, hm1, hq2⟩ := dm64 k
                obtain ⟨hn3, hn4, hr2, hm2, hq4⟩ := dm64 (sg p k m)
                have hq1 : ((k / 64 : Nat) : Int) < wsa.length := Int.ofNat_lt.2 hkl
                have hq3 : ((sg p k m / 64 : Nat) : Int) < K := Int.ofNat_lt.2 hdk
                have hcT : _ = some (Value.slice (some ⟨sb, 0, none⟩) K Cq) := HBT.out.cell 1
                have hlT := HBT.out.lt
                have hcX : _ = some (Value.slice (some ⟨ba, offa, none⟩) wsa.length Ca) := HBXa.out.cell 1
                have hlX := HBXa.out.lt
                obtain ⟨z, b, bp, he1, he2, he3, he4, hb1, hz64, hbp64⟩ := step_w (x := word m (renP m p wsa k) (sg p k m / 64)) (y := y) (r1 := k % 64) (r2 := sg p k m % 64) (v := vb wsa k) hwl hyl hr2 hvb
                have hHST := Lib.hid hst
                clear hst hset hget hy hvb
                generalize word m (renP m p wsa k) (sg p k m / 64) ||| (if vb wsa k then 1 else 0) * 2 ^ (sg p k m % 64) = nx at *
                generalize word m (renP m p wsa k) (sg p k m / 64) = x at *
                generalize sg p k m % 64 = r2 at *
                generalize sg p k m / 64 = q2 at *
                generalize sg p k m = sk at *
                generalize k % 64 = r1 at *
                generalize k / 64 = q1 at *
                go_upto_region 23 with fail
                refine wp_quiet_tail 21 (by kernel_rfl) (by kernel_rfl) ?_
                simp only [List.take_succ_cons, List.take_zero, List.drop_succ_cons, List.drop_zero]
                repeat (any_goals (first | go_big_quiet_step (fail) | quiet_step (fail)))
                refine wpQuiet_nil ?_
                rintro wz ⟨q, hq⟩
                have hsz : Same wq wz := by rw [hq]; exact more_same _ q
                have hfz := Own.free (Own.frm HOT.out hsz (fun _ _ => id)) q2
                have hcz := (hsz.cell (p := ⟨sb, q2, none⟩) hsl2 id).trans hsc
                have HSZ := Lib.hid ((HS1.out.trans hsz (fun _ _ h => h)).setNew (g := sb) q2 (.int .u64 (nx : Int)) hsbW)
                have HBXz := Lib.hid ((HBXa.out.frm hsz id).far (p := ⟨sb, q2, none⟩) hneXs (.int .u64 (nx : Int)))
                have HBRz := Lib.hid ((HBR.out.frm hsz id).far (p := ⟨sb, q2, none⟩) hneRs (.int .u64 (nx : Int)))
                have HBTz := Lib.hid ((HBT.out.frm hsz id).far (p := ⟨sb, q2, none⟩) hneTs (.int .u64 (nx : Int)))
                have HOZ := Lib.hid (hHST.out wz hsz)
                have hsbz : sb < wz.heap.size := Nat.lt_of_lt_of_le hsl2 hsz.size
                clear hq hsz hsc hsl2 hcT hlT hcX hlX hca hbla hn1 hn2 hn3 hn4 he1 he2 he3 he4 hm1 hm2
                go_wp2
                go_roundw
                case rel => exact ⟨k + 1, hltM, by go_num, HSZ.out, HBXz.out, HBRz.out, HBTz.out, HOZ.out⟩
                case measure => simp [intOf] <;> omega
          · obtain rfl : k = M := by omega
            rw [HFULL.out] at HOT
            have cT0 : _ = some (Value.int .i64 n) := HBT.out.cell 0
            have cT1 : _ = some (Value.slice (some ⟨sb, 0, none⟩) K Cq) := HBT.out.cell 1
            have lT := HBT.out.lt
            have cR0 : wr.cell? ⟨R, 0, none⟩ = some (.int .i64 0) := HBR.out.cell 0
            have cR1 : wr.cell? ⟨R, 1, none⟩ = some (.slice none 0 0) := HBR.out.cell 1
            have lR := HBR.out.lt
            have fR0 := HBR.out.free 0
            have fR1 := HBR.out.free 1
            go_wp2
            refine wp_post fun we hwe => ?_
            have hBE : Blk we R 30 #[.int .i64 n, .slice (some ⟨sb, 0, none⟩) K Cq] := by
              rw [hwe]
              have := (HBR.out.set 0 (.int .i64 n)).set 1 (.slice (some ⟨sb, 0, none⟩) K Cq)
              simpa using this
            have hSE : Same w we := by rw [hwe]; exact (HS1.out.setNew 0 _ leR).setNew 1 _ leR
            have hOE : OwnW we (some ⟨sb, 0, none⟩) K Cq (tab n (renF n p wsa)) := by
              rw [hwe]
              exact (Own.far (p := ⟨R, 0, none⟩) HOT.out (fun a ha h => by injection ha with ha; subst ha; exact hneRs h.symm) _).far (p := ⟨R, 1, none⟩) (fun a ha h => by injection ha with ha; subst ha; exact hneRs h.symm) _
            have hr0 : we.cell? ⟨R, 0, none⟩ = some (.int .i64 n) := hBE.cell 0
            have hr1 : we.cell? ⟨R, 1, none⟩ = some (.slice (some ⟨sb, 0, none⟩) K Cq) := hBE.cell 1
            clear hwe hBE
            refine bodyPost_ret (v := .tuple #[.agg #[.int .i64 n, .slice (some ⟨sb, 0, none⟩) K Cq], .int .i64 0]) (by simp [results, Try.results9, go_sem, hr0, hr1]) rfl ?_
            refine ⟨some ⟨sb, 0, none⟩, Cq, by rw [HKL.out]; rfl, ?_, fresh_some hsbW, hSE⟩
            rw [HKL.out]
            exact hOE
end Go.Proofs.Ytjgndclfbcijmaa


/- Truth tables: renamings there, back, one behind the other: plain. -/
namespace Go.Tk

/-- back, after k variables -/
def bkL (n : Nat) (p : List Int) : Nat → List Int
  | 0 => List.replicate n 0
  | k + 1 => (bkL n p k).set (pv p k) (k : Int)
/-- both, after k variables -/
def boL (n : Nat) (p q : List Int) : Nat → List Int
  | 0 => List.replicate n 0
  | k + 1 => (boL n p q k).set k (q.getD (pv p k) 0)
theorem bkL_len (n : Nat) (p : List Int) : ∀ k, (bkL n p k).length = n
  | 0 => by simp [bkL]
  | k + 1 => by rw [bkL, List.length_set, bkL_len n p k]
theorem boL_len (n : Nat) (p q : List Int) : ∀ k, (boL n p q k).length = n
  | 0 => by simp [boL]
  | k + 1 => by rw [boL, List.length_set, boL_len n p q k]
theorem bkL_get {n : Nat} {p : List Int} (h : PermN n p) : ∀ k, k ≤ n → ∀ v, v < k → (bkL n p k)[pv p v]? = some (v : Int)
  | 0, _, v, hv => by omega
  | k + 1, hk, v, hv => by
    have hl := h.lt (v := v) (by omega)
    rw [bkL, List.getElem?_set, bkL_len]
    by_cases he : pv p k = pv p v
    · obtain rfl := h.inj (by omega) (by omega) he
      rw [if_pos he, if_pos hl]
    · rw [if_neg he]
      exact bkL_get h k (by omega) v (by
        have : v ≠ k := fun hvk => he (by rw [hvk])
        omega)
theorem boL_get {n : Nat} {p q : List Int} : ∀ k, k ≤ n → ∀ v, v < k → (boL n p q k)[v]? = some (q.getD (pv p v) 0)
  | 0, _, v, hv => by omega
  | k + 1, hk, v, hv => by
    rw [boL, List.getElem?_set, boL_len]
    by_cases he : k = v
    · subst he
      rw [if_pos rfl, if_pos (by omega)]
    · rw [if_neg he]
      exact boL_get k (by omega) v (by omega)
theorem permN_of {n : Nat} {l : List Int} (hl : l.length = n) (h : ∀ t, t < n → ∃ u : Nat, u < n ∧ l[t]? = some (u : Int)) (inj : ∀ s t, s < n → t < n → l[s]? = l[t]? → s = t) : PermN n l := by
  refine ⟨hl, fun x hx => ?_, ?_⟩
  · obtain ⟨t, ht⟩ := List.getElem?_of_mem hx
    have htl := lt_get ht
    obtain ⟨u, hu, he⟩ := h t (by omega)
    rw [ht] at he
    injection he with he
    omega
  · rw [List.nodup_iff_pairwise_ne, List.pairwise_iff_getElem]
    intro i j hi hj hij he
    have := inj i j (by omega) (by omega) (by rw [List.getElem?_eq_getElem hi, List.getElem?_eq_getElem hj, he])
    omega
theorem PermN.get {n : Nat} {p : List Int} (h : PermN n p) {v : Nat} (hv : v < n) : p[v]? = some (pv p v : Int) := by
  have hg : p[v]? = some p[v]! := by
    rw [List.getElem?_eq_getElem (by rw [h.len]; exact hv)]
    simp [List.getElem!_eq_getElem?_getD, List.getElem?_eq_getElem (show v < p.length by rw [h.len]; exact hv)]
  rw [hg, pv_get hg]
  have := h.perm.1 _ (List.mem_of_getElem? hg)
  congr 1
  omega
theorem bkL_perm {n : Nat} {p : List Int} (h : PermN n p) : PermN n (bkL n p n) := by
  refine permN_of (bkL_len _ _ _) (fun t ht => ?_) fun s t hs ht he => ?_
  · obtain ⟨v, hv, rfl⟩ := h.onto ht
    exact ⟨v, hv, bkL_get h n (Nat.le_refl _) v hv⟩
  · obtain ⟨u, hu, rfl⟩ := h.onto hs
    obtain ⟨v, hv, rfl⟩ := h.onto ht
    rw [bkL_get h n (Nat.le_refl _) u hu, bkL_get h n (Nat.le_refl _) v hv] at he
    injection he with he
    have : u = v := by omega
    rw [this]
theorem boL_perm {n : Nat} {p q : List Int} (h : PermN n p) (hq : PermN n q) : PermN n (boL n p q n) := by
  have hg : ∀ v, v < n → (boL n p q n)[v]? = some (pv q (pv p v) : Int) := fun v hv => by
    rw [boL_get n (Nat.le_refl _) v hv, List.getD_eq_getElem?_getD, hq.get (h.lt hv)]
    rfl
  refine permN_of (boL_len _ _ _ _) (fun t ht => ⟨_, hq.lt (h.lt ht), hg t ht⟩) fun s t hs ht he => ?_
  rw [hg s hs, hg t ht] at he
  injection he with he
  exact h.inj hs ht (hq.inj (h.lt hs) (h.lt ht) (by omega))
theorem tau_bit {n : Nat} {p : List Int} (i v : Nat) : (tau n p i).testBit v = (decide (v < n) && i.testBit (pv p v)) := bsum_bit _ _ _
theorem tau_lt {n : Nat} {p : List Int} (i : Nat) : tau n p i < 2 ^ n := bsum_lt _ _
theorem pv_bk {n : Nat} {p : List Int} (h : PermN n p) {v : Nat} (hv : v < n) : pv (bkL n p n) (pv p v) = v := by
  rw [pv_get (bkL_get h n (Nat.le_refl _) v hv)]
  simp
theorem pv_bo {n : Nat} {p q : List Int} (h : PermN n p) (hq : PermN n q) {v : Nat} (hv : v < n) : pv (boL n p q n) v = pv q (pv p v) := by
  rw [pv_get (boL_get n (Nat.le_refl _) v hv), List.getD_eq_getElem?_getD, hq.get (h.lt hv)]
  simp
theorem high_bit {n i t : Nat} (hi : i < 2 ^ n) (ht : ¬ t < n) : i.testBit t = false := Nat.testBit_lt_two_pow (Nat.lt_of_lt_of_le hi (Nat.pow_le_pow_right (by omega) (by omega)))
theorem ren_back {n : Nat} {p : List Int} {ws : List Nat} (hf : FormN n ws) (hb : ∀ x ∈ ws, x < 18446744073709551616) (h : PermN n p) : tab n (renF n (bkL n p n) (tab n (renF n p ws))) = ws := by
  refine Eq.trans (tab_congr fun i hi => ?_) (tab_vb hf hb)
  unfold renF
  rw [vb_tab (tau_lt i)]
  congr 1
  apply Nat.eq_of_testBit_eq
  intro v
  rw [tau_bit]
  by_cases hv : v < n
  · rw [tau_bit, pv_bk h hv]
    simp [hv, h.lt hv]
  · rw [high_bit hi hv]
    simp [hv]
theorem ren_both {n : Nat} {p q : List Int} {ws : List Nat} (h : PermN n p) (hq : PermN n q) : tab n (renF n q (tab n (renF n p ws))) = tab n (renF n (boL n p q n) ws) := by
  refine tab_congr fun i hi => ?_
  unfold renF
  rw [vb_tab (tau_lt i)]
  congr 1
  apply Nat.eq_of_testBit_eq
  intro v
  rw [tau_bit, tau_bit]
  by_cases hv : v < n
  · rw [tau_bit, pv_bo h hq hv]
    simp [h.lt hv, hv]
  · simp [hv, tau_bit]
theorem tau_inj {n : Nat} {p : List Int} (h : PermN n p) {i j : Nat} (hi : i < 2 ^ n) (hj : j < 2 ^ n) (he : tau n p i = tau n p j) : i = j := by rw [← sg_tau h hi, he, sg_tau h hj]
theorem ren_cnt {n : Nat} {p : List Int} {ws : List Nat} (h : PermN n p) : cntB (vb (tab n (renF n p ws))) (2 ^ n) = cntB (vb ws) (2 ^ n) := by
  rw [cntB_congr (G := fun i => vb ws (tau n p i)) fun j hj => by rw [vb_tab hj]; rfl]
  exact cntB_perm (fun i _ => tau_lt i) fun i j hi hj he => tau_inj h hi hj he
theorem tau_wth {n : Nat} {p : List Int} (h : PermN n p) {v : Nat} (hv : v < n) (i : Nat) (b : Bool) : tau n p (wth i (pv p v) b) = wth (tau n p i) v b := by
  refine wth_of fun j => ?_
  rw [tau_bit, tau_bit, wth_bit]
  by_cases hj : j = v
  · subst hj; simp [hv]
  · rw [if_neg hj]
    by_cases hjn : j < n
    · rw [if_neg (fun he => hj (h.inj hjn hv he))]
    · simp [hjn]
end Go.Tk
namespace Go.Proofs.Ytjgndclfbcijmaa
open Go.RowKit Go.Tk

theorem ren_dep {n : Nat} {p : List Int} {ws : List Nat} (h : PermN n p) {v : Nat} (hv : v < n) : depB n (tab n (renF n p ws)) (pv p v) = depB n ws v := by
  have key : ∀ i, i < 2 ^ n → ∀ b, hfF (pv p v) b (tab n (renF n p ws)) i = hfF v b ws (tau n p i) := fun i hi b => by
    unfold hfF
    rw [vb_tab (wth_lt hi (h.lt hv))]
    unfold renF
    rw [tau_wth h hv]
  cases hd : depB n ws v with
  | false =>
    refine depB_false fun i hi => ?_
    rw [key i hi, key i hi]
    exact depB_eq hd (tau_lt i)
  | true =>
    by_cases hall : ∀ i, i < 2 ^ n → hfF v false ws i = hfF v true ws i
    · rw [depB_false hall] at hd; cases hd
    · obtain ⟨i, hi⟩ := Classical.not_forall.1 hall
      obtain ⟨hin, hne⟩ := Classical.not_imp.1 hi
      have hsl := sg_lt h i n (Nat.le_refl _)
      refine depB_true hsl ?_
      rw [key _ hsl, key _ hsl, tau_sg h hin]
      exact hne
theorem ren_sup {n : Nat} {p : List Int} {ws : List Nat} (h : PermN n p) : bsum (depB n (tab n (renF n p ws))) n = sg p (bsum (depB n ws) n) n := by
  obtain ⟨h1, h2⟩ := sg_bits h (bsum (depB n ws) n) n (Nat.le_refl _)
  apply Nat.eq_of_testBit_eq
  intro t
  rw [bsum_bit]
  by_cases ht : t < n
  · obtain ⟨v, hv, rfl⟩ := h.onto ht
    rw [h1 v hv, bsum_bit, ren_dep h hv]
    simp [hv, ht]
  · rw [h2 t fun v hv he => ht (by rw [← he]; exact h.lt hv)]
    simp [ht]
theorem step_u {k u s m t : Nat} (hs : s < 18446744073709551616) (hu : u < 16) (hm : m < 65536) (ht : m ||| (s / 2 ^ k % 2) * 2 ^ u = t) :
    ∃ q b c : Nat, (s : Int) / 2 ^ k = (q : Int) ∧ bits .and .u64 (q : Int) 1 = (b : Int) ∧ IntKind.u64.wrap ((b : Int) * 2 ^ u) = (c : Int) ∧ bits .or .u64 (m : Int) (c : Int) = (t : Int) ∧ b < 2 ∧ q < 18446744073709551616 ∧ c < 18446744073709551616 := by
  have hqk : s / 2 ^ k ≤ s := Nat.div_le_self _ _
  have hd2 := u64_and_nat (s / 2 ^ k) 1 (by omega) (by omega)
  rw [nat_mask1] at hd2
  have hb2 : s / 2 ^ k % 2 < 2 := Nat.mod_lt _ (by omega)
  have hc := mul_le16 hb2 hu
  refine ⟨s / 2 ^ k, s / 2 ^ k % 2, (s / 2 ^ k % 2) * 2 ^ u, by rw [pow_int]; exact (Int.natCast_ediv _ _).symm, hd2, ?_, ?_, hb2, by omega, by omega⟩
  · rw [pow_int, ← Int.natCast_mul]
    generalize (s / 2 ^ k % 2) * 2 ^ u = c at hc
    exact IntWalk.u64_in _ (by omega)
  · rw [← ht]
    generalize (s / 2 ^ k % 2) * 2 ^ u = c at hc
    exact u64_or_nat m c (by omega) (by omega)
end Go.Proofs.Ytjgndclfbcijmaa


/- Shape: variables by other numbers (plain). -/
namespace Go.Proofs.Ytjgndclfbcijmaa
open Go.RowKit Go.Tk Go.Maps

/-- the renamed table -/
def rnT (nn : Nat) (p : List Int) (x : List Nat) : List Nat := tab nn (renF nn p x)
theorem pv_lt {nn : Nat} {p : List Int} (h : PermN nn p) {v : Nat} (hv : v < nn) : pv p v < nn := h.lt hv
theorem rnT_hT {nn v : Nat} {p : List Int} (h : PermN nn p) (hv : v < nn) (b : Bool) (x : List Nat) : hT nn (pv p v) b (rnT nn p x) = rnT nn p (hT nn v b x) := by
  unfold hT rnT
  refine tab_congr fun i hi => ?_
  show vb (tab nn (renF nn p x)) (wth i (pv p v) b) = vb (tab nn (hfF v b x)) (tau nn p i)
  rw [vb_tab (wth_lt hi (pv_lt h hv)), vb_tab (tau_lt i)]
  show vb x (tau nn p (wth i (pv p v) b)) = vb x (wth (tau nn p i) v b)
  rw [tau_wth h hv]
theorem rnT_inj {nn : Nat} {p : List Int} (h : PermN nn p) {x y : List Nat} (hx : FormN nn x) (hy : FormN nn y) (sx : Small x) (sy : Small y) (he : rnT nn p x = rnT nn p y) : x = y := by
  rw [← ren_back hx sx h, ← ren_back hy sy h]
  unfold rnT at he
  rw [he]
/-- the renamed set's members -/
def RnEq (nn : Nat) (p : List Int) (L K : List (List Nat)) : Prop := ∀ y, y ∈ K ↔ ∃ x ∈ L, y = rnT nn p x
theorem rn_step {nn v : Nat} {p : List Int} (h : PermN nn p) (hv : v < nn) {L K : List (List Nat)} (hLK : RnEq nn p L K) : RnEq nn p (stepS nn v L) (stepS nn (pv p v) K) := fun y => by
  rw [stepS_hT]
  constructor
  · rintro ⟨z, hz, b, rfl⟩
    obtain ⟨x, hx, rfl⟩ := (hLK z).1 hz
    exact ⟨hT nn v b x, stepS_hT.2 ⟨x, hx, b, rfl⟩, rnT_hT h hv b x⟩
  · rintro ⟨z, hz, rfl⟩
    obtain ⟨x, hx, b, rfl⟩ := stepS_hT.1 hz
    exact ⟨rnT nn p x, (hLK _).2 ⟨x, hx, rfl⟩, b, (rnT_hT h hv b x).symm⟩
theorem rn_set {nn : Nat} {p : List Int} (h : PermN nn p) : ∀ (vs : List Nat) {L K : List (List Nat)}, (∀ v ∈ vs, v < nn) → RnEq nn p L K → RnEq nn p (setAt nn L vs) (setAt nn K (vs.map (pv p)))
  | [], _, _, _, hLK => hLK
  | v :: vs, L, K, hv, hLK => by
    rw [List.map_cons, setAt_cons, setAt_cons]
    exact rn_set h vs (fun w hw => hv w (List.mem_cons_of_mem _ hw)) (rn_step h (hv v List.mem_cons_self) hLK)
theorem rn_cnt {nn v : Nat} {p : List Int} (h : PermN nn p) (hv : v < nn) {L K : List (List Nat)} (hL : L.Nodup) (hK : K.Nodup) (hf : ∀ x ∈ L, FormN nn x) (hs : ∀ x ∈ L, Small x) (h16 : nn ≤ 16) (hLK : RnEq nn p L K) : cntL nn (pv p v) K = cntL nn v L := by
  have hd : ∀ x ∈ L, (loT nn (pv p v) (rnT nn p x) ≠ hiT nn (pv p v) (rnT nn p x)) ↔ loT nn v x ≠ hiT nn v x := fun x hx => by
    have e1 : loT nn (pv p v) (rnT nn p x) = rnT nn p (loT nn v x) := rnT_hT h hv false x
    have e2 : hiT nn (pv p v) (rnT nn p x) = rnT nn p (hiT nn v x) := rnT_hT h hv true x
    rw [e1, e2]
    constructor
    · intro hn he
      exact hn (by rw [he])
    · intro hn he
      exact hn (rnT_inj h (tab_form h16) (tab_form h16) (fun z hz => tab_lt z hz) (fun z hz => tab_lt z hz) he)
  unfold cntL
  have hp : (K.filter fun x => decide (loT nn (pv p v) x ≠ hiT nn (pv p v) x)).Perm ((L.filter fun x => decide (loT nn v x ≠ hiT nn v x)).map (rnT nn p)) := by
    refine (List.perm_ext_iff_of_nodup (hK.filter _) (map_nodup (hL.filter _) fun x hx y hy he => ?_)).2 fun y => ?_
    · have h1 := (List.mem_filter.1 hx).1
      have h2 := (List.mem_filter.1 hy).1
      exact rnT_inj h (hf x h1) (hf y h2) (hs x h1) (hs y h2) he
    · rw [List.mem_filter, decide_eq_true_eq, List.mem_map]
      constructor
      · rintro ⟨h1, h2⟩
        obtain ⟨x, hx, rfl⟩ := (hLK y).1 h1
        exact ⟨x, List.mem_filter.2 ⟨hx, decide_eq_true ((hd x hx).1 h2)⟩, rfl⟩
      · rintro ⟨x, hx, rfl⟩
        obtain ⟨h1, h2⟩ := List.mem_filter.1 hx
        exact ⟨(hLK _).2 ⟨x, h1, rfl⟩, (hd x h1).2 (of_decide_eq_true h2)⟩
  rw [hp.length_eq, List.length_map]
end Go.Proofs.Ytjgndclfbcijmaa


/- Shape: the renamed tables' Profile (plain). -/
namespace Go.Proofs.Ytjgndclfbcijmaa
open Go.RowKit Go.Tk Go.Maps

def nmL (ns os : List Int) : List Int := os.map fun v => ns.getD v.toNat 0
theorem nm_at {ns os : List Int} {nn : Nat} (h : PermN nn ns) {k v : Nat} (hv : os[k]? = some (v : Int)) : (nmL ns os)[k]? = some ((pv ns v : Nat) : Int) ∨ nn ≤ v := by
  rcases Nat.lt_or_ge v nn with hl | hl
  · refine .inl ?_
    obtain ⟨x, hx⟩ : ∃ x, ns[v]? = some x := ⟨_, List.getElem?_eq_getElem (by rw [h.len]; exact hl)⟩
    have := h.perm.1 x (List.mem_of_getElem? hx)
    unfold nmL
    rw [List.getElem?_map, hv, Option.map_some, Int.toNat_natCast, List.getD_eq_getElem?_getD, hx, Option.getD_some, pv_get hx]
    congr 1
    omega
  · exact .inr hl
theorem nm_perm {ns os : List Int} (h : PermN os.length ns) (ho : IsPerm os) : IsPerm (nmL ns os) := by
  have hl : (nmL ns os).length = os.length := by simp [nmL]
  refine isPerm_of_all fun v hv => ?_
  rw [hl] at hv
  obtain ⟨i, hi⟩ := List.getElem?_of_mem (h.perm.mem (v := v) (by rw [h.len]; exact hv))
  have hil : i < os.length := by have := lt_of_get hi; rw [h.len] at this; exact this
  refine List.mem_map.2 ⟨(i : Int), ho.mem hil, ?_⟩
  rw [Int.toNat_natCast, List.getD_eq_getElem?_getD, hi]
  rfl
/-- the renamed list -/
def RnT (nn : Nat) (ns : List Int) (xs ts : List Tb) : Prop := ts.length = xs.length ∧ ∀ (i : Nat) (x t : Tb), xs[i]? = some x → ts[i]? = some t → t.N = (nn : Int) ∧ t.ws = rnT nn ns x.ws
theorem names_law {xs ts : List Tb} {os ns : List Int} (hok : ∀ t ∈ xs, Small t.ws) (he : prE xs os = 0) (h : PermN os.length ns) (hts : RnT os.length ns xs ts) : prE ts (nmL ns os) = 0 ∧ prL ts (nmL ns os) = prL xs os := by
  obtain ⟨h16, hper⟩ := prE_16 he
  obtain ⟨hfm, hN⟩ := fm_of_ok he
  have hl : (nmL ns os).length = os.length := by simp [nmL]
  have hx : ∀ i t, ts[i]? = some t → ∃ x, xs[i]? = some x := fun i t ht => ⟨_, List.getElem?_eq_getElem (by have := lt_of_get ht; rw [hts.1] at this; exact this)⟩
  have ht0 : ts ≠ [] → tN0 ts = (os.length : Int) := fun hne => by
    obtain ⟨t, ht⟩ : ∃ t, ts[0]? = some t := ⟨_, List.getElem?_eq_getElem (List.length_pos_iff.2 hne)⟩
    obtain ⟨x, hx0⟩ := hx 0 t ht
    have := (hts.2 0 x t hx0 ht).1
    unfold tN0
    rw [List.getD_eq_getElem?_getD, ht]
    exact this
  have hfm2 : fm ts = true := by
    refine List.all_eq_true.2 fun t ht => ?_
    obtain ⟨i, hi⟩ := List.getElem?_of_mem ht
    obtain ⟨x, hx0⟩ := hx i t hi
    obtain ⟨e1, e2⟩ := hts.2 i x t hx0 hi
    have e3 := ht0 (by rintro rfl; cases ht)
    have e4 : frm t.N t.ws = true := by rw [e1, e2]; exact frm_nat.2 (tab_form h16)
    have e5 : t.N = (ts.getD 0 ⟨0, none, 0, []⟩).N := e1.trans e3.symm
    simp only [Bool.and_eq_true, beq_iff_eq]
    exact ⟨e4, e5⟩
  have hE : prE ts (nmL ns os) = 0 := by
    unfold prE
    rw [hfm2, if_pos rfl, if_neg, hl, if_neg (by omega)]
    rintro (⟨h1, h2⟩ | h1)
    · rw [hl] at h2
      exact h2 (ht0 (List.length_pos_iff.1 h1)).symm
    · unfold chk at h1
      rw [if_pos (nm_perm h hper)] at h1
      split at h1 <;> cases h1
  refine ⟨hE, ?_⟩
  have hEq : RnEq os.length ns (tSet xs) (tSet ts) := fun y => by
    unfold tSet
    constructor
    · intro hy
      obtain ⟨t, ht, rfl⟩ := List.mem_map.1 (mem_uniq.1 hy)
      obtain ⟨i, hi⟩ := List.getElem?_of_mem ht
      obtain ⟨x, hx0⟩ := hx i t hi
      exact ⟨x.ws, mem_uniq.2 (List.mem_map.2 ⟨x, List.mem_of_getElem? hx0, rfl⟩), (hts.2 i x t hx0 hi).2⟩
    · rintro ⟨z, hz, rfl⟩
      obtain ⟨x, hx1, rfl⟩ := List.mem_map.1 (mem_uniq.1 hz)
      obtain ⟨i, hi⟩ := List.getElem?_of_mem hx1
      obtain ⟨t, ht⟩ : ∃ t, ts[i]? = some t := ⟨_, List.getElem?_eq_getElem (by rw [hts.1]; exact lt_of_get hi)⟩
      exact mem_uniq.2 (List.mem_map.2 ⟨t, List.mem_of_getElem? ht, (hts.2 i x t hi ht).2⟩)
  have hFN : ∀ ws ∈ tSet xs, FormN os.length ws := tSet_form hfm hN
  have hSM : ∀ ws ∈ tSet xs, Small ws := fun ws hw => by
    obtain ⟨t, ht, rfl⟩ := List.mem_map.1 (mem_uniq.1 hw)
    exact hok t ht
  apply List.ext_getElem?
  intro k
  rcases Nat.lt_or_ge k os.length with hk | hk
  · obtain ⟨v, hv, hvn⟩ := IsPerm.at hper hk
    have hv2 : (nmL ns os)[k]? = some ((pv ns v : Nat) : Int) := by
      rcases nm_at h hv with h1 | h1
      · exact h1
      · omega
    have htk : ((nmL ns os).map Int.toNat).take k = ((os.map Int.toNat).take k).map (pv ns) := by
      rw [← List.map_take, ← List.map_take]
      unfold nmL
      rw [← List.map_take, List.map_map, List.map_map]
      exact List.map_congr_left fun z hz => rfl
    have hset := rn_set h ((os.map Int.toNat).take k) (nats_lt hper) hEq
    obtain ⟨S1, hS1⟩ : ∃ z, z = setAt os.length (tSet xs) ((os.map Int.toNat).take k) := ⟨_, rfl⟩
    obtain ⟨S2, hS2⟩ : ∃ z, z = setAt os.length (tSet ts) (((os.map Int.toNat).take k).map (pv ns)) := ⟨_, rfl⟩
    have f1 : S1.Nodup := by rw [hS1]; exact setAt_nodup _ (uniq_nodup _)
    have f2 : S2.Nodup := by rw [hS2]; exact setAt_nodup _ (uniq_nodup _)
    have f3 : ∀ x ∈ S1, FormN os.length x := by rw [hS1]; exact setAt_form h16 _ hFN
    have f4 : ∀ x ∈ S1, Small x := by rw [hS1]; exact setAt_small _ hSM
    rw [← hS1, ← hS2] at hset
    have hc := rn_cnt h hvn f1 f2 f3 f4 h16 hset
    rw [prl_at he hv, prl_at hE hv2, hl, htk, ← hS1, ← hS2, hc]
  · have e1 : (prL ts (nmL ns os)).length ≤ k := by have := prL_len ts (nmL ns os); omega
    have e2 : (prL xs os).length ≤ k := by have := prL_len xs os; omega
    rw [List.getElem?_eq_none e1, List.getElem?_eq_none e2]
end Go.Proofs.Ytjgndclfbcijmaa


/- WholeShape: what the sizes hang on (plain). -/
namespace Go.Proofs.Ytjgndclfbcijmaa
open Go.RowKit Go.Tk Go.Maps

/-- the tables are all of nn variables, in form -/
def AllN (nn : Nat) (xs : List Tb) : Prop := ∀ t ∈ xs, t.N = (nn : Int) ∧ FormN nn t.ws ∧ Small t.ws
theorem AllN.t0 {nn : Nat} {xs : List Tb} (h : AllN nn xs) (hne : xs ≠ []) : tN0 xs = (nn : Int) := by
  obtain ⟨t, ht⟩ : ∃ t, xs[0]? = some t := ⟨_, List.getElem?_eq_getElem (List.length_pos_iff.2 hne)⟩
  unfold tN0
  rw [List.getD_eq_getElem?_getD, ht]
  exact (h t (List.mem_of_getElem? ht)).1
theorem AllN.fm {nn : Nat} {xs : List Tb} (h : AllN nn xs) : fm xs = true := by
  refine List.all_eq_true.2 fun t ht => ?_
  obtain ⟨e1, e2, _⟩ := h t ht
  have e4 : frm t.N t.ws = true := by rw [e1]; exact frm_nat.2 e2
  have e5 : t.N = (xs.getD 0 ⟨0, none, 0, []⟩).N := e1.trans (h.t0 (by rintro rfl; cases ht)).symm
  simp only [Bool.and_eq_true, beq_iff_eq]
  exact ⟨e4, e5⟩
theorem all_ok {nn : Nat} {xs : List Tb} {os : List Int} (h : AllN nn xs) (hp : PermN nn os) (h16 : nn ≤ 16) : prE xs os = 0 := by
  unfold prE
  rw [h.fm, if_pos rfl, hp.len, if_neg, if_neg (by omega)]
  rintro (⟨h1, h2⟩ | h1)
  · exact h2 (h.t0 (List.length_pos_iff.1 h1)).symm
  · unfold chk at h1
    rw [if_pos hp.perm] at h1
    split at h1 <;> cases h1
/-- the same tables, in whatever order and however often -/
theorem prL_mem {xs ts : List Tb} {os : List Int} (he : prE xs os = 0) (he2 : prE ts os = 0) (h : ∀ y, y ∈ xs.map Tb.ws ↔ y ∈ ts.map Tb.ws) : prL ts os = prL xs os := by
  obtain ⟨h16, hper⟩ := prE_16 he
  have hm : MemEq (tSet ts) (tSet xs) := fun y => by
    unfold tSet
    rw [mem_uniq, mem_uniq, h y]
  apply List.ext_getElem?
  intro k
  rcases Nat.lt_or_ge k os.length with hk | hk
  · obtain ⟨v, hv, hvn⟩ := IsPerm.at hper hk
    rw [prl_at he hv, prl_at he2 hv]
    congr 2
    exact cntL_eq (setAt_nodup _ (uniq_nodup _)) (setAt_nodup _ (uniq_nodup _)) (setAt_mono _ hm)
  · have e1 : (prL ts os).length ≤ k := by have := prL_len ts os; omega
    have e2 : (prL xs os).length ≤ k := by have := prL_len xs os; omega
    rw [List.getElem?_eq_none e1, List.getElem?_eq_none e2]
/-- a function that hangs on u gives one, behind another variable's value -/
theorem dep_down {nn u v : Nat} {x : List Nat} (hu : u < nn) (_hv : v < nn) (hne : u ≠ v) (h : dep nn u x) : ∃ b, dep nn u (hT nn v b x) := by
  refine Classical.byContradiction fun hn => ?_
  have hall : ∀ b, Ind nn u (hT nn v b x) := fun b => ind_of fun hd => hn ⟨b, hd⟩
  refine h (tab_congr fun i hi => ?_)
  show vb x (wth i u false) = vb x (wth i u true)
  have h1 := hall (i.testBit v) i hi false
  have h2 := hall (i.testBit v) i hi true
  unfold hT at h1 h2
  rw [vb_tab (wth_lt hi hu), vb_tab hi] at h1 h2
  have e : ∀ c, hfF v (i.testBit v) x (wth i u c) = vb x (wth i u c) := fun c => by
    show vb x (wth (wth i u c) v (i.testBit v)) = vb x (wth i u c)
    rw [wth_comm hne, wth_self]
  rw [e] at h1 h2
  rw [h1, h2]
theorem dep_set {nn u : Nat} (hu : u < nn) : ∀ (vs : List Nat) {L : List (List Nat)}, (∀ w ∈ vs, w < nn ∧ w ≠ u) → ((∃ x ∈ L, dep nn u x) ↔ ∃ x ∈ setAt nn L vs, dep nn u x)
  | [], _, _ => Iff.rfl
  | w :: vs, L, hw => by
    rw [setAt_cons, ← dep_set hu vs (fun z hz => hw z (List.mem_cons_of_mem _ hz))]
    obtain ⟨hwn, hwu⟩ := hw w List.mem_cons_self
    constructor
    · rintro ⟨x, hx, hd⟩
      obtain ⟨b, hb⟩ := dep_down hu hwn (Ne.symm hwu) hd
      exact ⟨_, stepS_hT.2 ⟨x, hx, b, rfl⟩, hb⟩
    · rintro ⟨y, hy, hd⟩
      obtain ⟨x, hx, b, rfl⟩ := stepS_hT.1 hy
      exact ⟨x, hx, dep_hT hu hwn hd⟩
theorem cnt_pos {nn v : Nat} {L : List (List Nat)} : 0 < cntL nn v L ↔ ∃ x ∈ L, dep nn v x := by
  unfold cntL
  rw [List.length_pos_iff_exists_mem]
  constructor
  · rintro ⟨x, hx⟩
    obtain ⟨h1, h2⟩ := List.mem_filter.1 hx
    have h3 : loT nn v x ≠ hiT nn v x := of_decide_eq_true h2
    exact ⟨x, h1, h3⟩
  · rintro ⟨x, h1, h2⟩
    have h3 : loT nn v x ≠ hiT nn v x := h2
    exact ⟨x, List.mem_filter.2 ⟨h1, decide_eq_true h3⟩⟩
theorem take_ne {os : List Int} (hper : IsPerm os) {k v : Nat} (hv : os[k]? = some (v : Int)) : ∀ w ∈ (os.map Int.toNat).take k, w < os.length ∧ w ≠ v := fun w hw => by
  refine ⟨nats_lt hper w hw, ?_⟩
  rintro rfl
  obtain ⟨j, hj⟩ := List.getElem?_of_mem hw
  have hjk : j < k := by
    have := lt_of_get hj
    rw [List.length_take] at this
    omega
  rw [List.getElem?_take_of_lt hjk] at hj
  have := (List.getElem?_inj (lt_of_get hj) (nats_nodup hper)).1 (hj.trans (cell_at hv).symm)
  omega
/-- a level has nodes just where a function hangs on its variable -/
theorem lev_pos {xs : List Tb} {os : List Int} (he : prE xs os = 0) {k v : Nat} (hv : os[k]? = some (v : Int)) : ∃ c : Nat, (prL xs os)[k]? = some (c : Int) ∧ (0 < c ↔ ∃ t ∈ xs, dep os.length v t.ws) := by
  obtain ⟨h16, hper⟩ := prE_16 he
  have hvn := hper.1 _ (List.mem_of_getElem? hv)
  refine ⟨_, prl_at he hv, ?_⟩
  rw [cnt_pos, ← dep_set (by omega) _ (take_ne hper hv)]
  unfold tSet
  constructor
  · rintro ⟨x, hx, hd⟩
    obtain ⟨t, ht, rfl⟩ := List.mem_map.1 (mem_uniq.1 hx)
    exact ⟨t, ht, hd⟩
  · rintro ⟨t, ht, hd⟩
    exact ⟨t.ws, mem_uniq.2 (List.mem_map.2 ⟨t, ht, rfl⟩), hd⟩
/-! one variable alone -/
def x0W (nn : Nat) : List Nat := tab nn (fun x => x.testBit 0)
theorem x0_dep {nn u : Nat} (hu : u < nn) : dep nn u (x0W nn) ↔ u = 0 := by
  constructor
  · intro h
    refine Classical.byContradiction fun hne => ?_
    refine dep_of_ind hu (fun i hi c => ?_) h
    unfold x0W
    rw [vb_tab (wth_lt hi hu), vb_tab hi, wth_bit, if_neg (fun h => hne h.symm)]
  · rintro rfl hd
    have h3 := congrArg (fun z => vb z 0) hd
    simp only [loT, hiT] at h3
    rw [vb_tab (Nat.pow_pos (by omega)), vb_tab (Nat.pow_pos (by omega))] at h3
    have h4 : vb (x0W nn) (wth 0 0 false) = vb (x0W nn) (wth 0 0 true) := h3
    unfold x0W at h4
    rw [vb_tab (wth_lt (Nat.pow_pos (by omega)) hu), vb_tab (wth_lt (Nat.pow_pos (by omega)) hu), wth_bit, wth_bit] at h4
    simp at h4
theorem x0_set {nn : Nat} (h16 : nn ≤ 16) : ∀ (vs : List Nat), (∀ w ∈ vs, w < nn ∧ w ≠ 0) → MemEq (setAt nn [x0W nn] vs) [x0W nn]
  | [], _ => fun _ => Iff.rfl
  | w :: vs, hw => by
    rw [setAt_cons]
    obtain ⟨hwn, hw0⟩ := hw w List.mem_cons_self
    have hd : ¬ dep nn w (x0W nn) := fun h => hw0 ((x0_dep hwn).1 h)
    have hm : MemEq (stepS nn w [x0W nn]) [x0W nn] := fun y => by
      rw [stepS_hT, List.mem_singleton]
      constructor
      · rintro ⟨x, hx, b, rfl⟩
        obtain rfl := List.mem_singleton.1 hx
        exact hT_same (tab_form h16) (fun z hz => tab_lt z hz) hd b
      · rintro rfl
        exact ⟨_, List.mem_cons_self, false, (hT_same (tab_form h16) (fun z hz => tab_lt z hz) hd false).symm⟩
    intro y
    rw [setAt_mono vs hm y]
    exact x0_set h16 vs (fun z hz => hw z (List.mem_cons_of_mem _ hz)) y
theorem sum_zero_one : ∀ l : List Int, l.Nodup → (l.map fun v : Int => if v = 0 then (1 : Int) else 0).sum = if (0 : Int) ∈ l then 1 else 0
  | [], _ => rfl
  | v :: l, h => by
    obtain ⟨h1, h2⟩ := List.nodup_cons.1 h
    rw [List.map_cons, List.sum_cons, sum_zero_one l h2]
    by_cases hv : v = 0
    · subst hv
      rw [if_pos rfl, if_neg h1, if_pos List.mem_cons_self]
      rfl
    · rw [if_neg hv]
      by_cases hm : (0 : Int) ∈ l
      · rw [if_pos hm, if_pos (List.mem_cons_of_mem _ hm)]; rfl
      · rw [if_neg hm, if_neg (fun h => by rcases List.mem_cons.1 h with h | h; exact hv h.symm; exact hm h)]; rfl
theorem x0_one {nn : Nat} {os : List Int} (hp : PermN nn os) (h0 : 0 < nn) (h16 : nn ≤ 16) (A : Option Addr) (C : Nat) : prE [⟨(nn : Int), A, C, x0W nn⟩] os = 0 ∧ (prL [⟨(nn : Int), A, C, x0W nn⟩] os).sum = 1 := by
  have hall : AllN nn [⟨(nn : Int), A, C, x0W nn⟩] := fun t ht => by
    obtain rfl := List.mem_singleton.1 ht
    exact ⟨rfl, tab_form h16, fun z hz => tab_lt z hz⟩
  have he := all_ok hall hp h16
  obtain rfl := hp.len
  refine ⟨he, ?_⟩
  have hl : prL [⟨(os.length : Int), A, C, x0W os.length⟩] os = os.map fun v : Int => if v = 0 then (1 : Int) else 0 := by
    apply List.ext_getElem?
    intro k
    rcases Nat.lt_or_ge k os.length with hk | hk
    · obtain ⟨v, hv, hvn⟩ := IsPerm.at hp.perm hk
      rw [prl_at he hv, List.getElem?_map, hv, Option.map_some]
      congr 1
      have hts : tSet [⟨(os.length : Int), A, C, x0W os.length⟩] = [x0W os.length] := rfl
      rw [hts]
      by_cases hv0 : v = 0
      · subst hv0
        refine Eq.trans (b := (1 : Int)) ?_ rfl
        have hm := x0_set h16 ((os.map Int.toNat).take k) (take_ne hp.perm hv)
        have hnd : [x0W os.length].Nodup := by simp
        rw [cntL_eq (setAt_nodup _ hnd) hnd hm]
        have h1 : 0 < cntL os.length 0 [x0W os.length] := cnt_pos.2 ⟨_, List.mem_cons_self, (x0_dep h0).2 rfl⟩
        have h2 : cntL os.length 0 [x0W os.length] ≤ 1 := List.length_filter_le _ _
        omega
      · have hc : ¬ 0 < cntL os.length v (setAt os.length [x0W os.length] ((os.map Int.toNat).take k)) := fun h => by
          obtain ⟨x, hx, hd⟩ := cnt_pos.1 h
          obtain ⟨y, hy, hd2⟩ := (dep_set hvn _ (take_ne hp.perm hv)).2 ⟨x, hx, hd⟩
          obtain rfl := List.mem_singleton.1 hy
          exact hv0 ((x0_dep hvn).1 hd2)
        rw [if_neg (by omega)]
        omega
    · have e1 : (prL [⟨(os.length : Int), A, C, x0W os.length⟩] os).length ≤ k := by have := prL_len [⟨(os.length : Int), A, C, x0W os.length⟩] os; omega
      rw [List.getElem?_eq_none e1, List.getElem?_eq_none (by simpa using hk)]
  have hnd : os.Nodup := by
    rw [List.nodup_iff_pairwise_ne]
    exact hp.perm.2
  rw [hl, sum_zero_one os hnd, if_pos (show (0 : Int) ∈ os from hp.perm.mem h0)]
/-! a level under an order's beginning, whatever the list -/
theorem setAt_emp (nn : Nat) : ∀ vs : List Nat, setAt nn [] vs = []
  | [] => rfl
  | v :: vs => by rw [setAt_cons, show stepS nn v [] = [] from rfl, setAt_emp nn vs]
theorem lev_any {xs : List Tb} {os : List Int} (he : prE xs os = 0) {k v : Nat} (hv : os[k]? = some (v : Int)) :
    lvE xs (abv ((os.map Int.toNat).take k)) v = 0 ∧ (prL xs os)[k]? = some ((lvC xs (abv ((os.map Int.toNat).take k)) v : Nat) : Int) := by
  obtain ⟨h16, hper⟩ := prE_16 he
  have hvn := hper.1 _ (List.mem_of_getElem? hv)
  by_cases hne : xs = []
  · subst hne
    have hE : lvE [] (abv ((os.map Int.toNat).take k)) v = 0 := by
      unfold lvE
      rw [show fm [] = true from rfl, if_pos rfl, show lvN [] = 16 from rfl, if_neg, Int.toNat_natCast, abv_bit, if_neg]
      · simpa using fun h => (take_ne hper hv v h).2 rfl
      · rintro (h | h | h)
        · omega
        · omega
        · exact h (Nat.div_eq_of_lt (abv_lt fun x hx => by have := (take_ne hper hv x hx).1; omega))
    refine ⟨hE, ?_⟩
    rw [prl_at he hv]
    unfold lvC
    rw [if_pos hE, show tSet [] = [] from rfl, setAt_emp, setAt_emp]
    simp only [cntL, List.filter_nil, List.length_nil]
  · obtain ⟨h1, h2⟩ := level_of he hne hper hv
    exact ⟨h1, by rw [h2]; exact prl_at he hv⟩
/-! on which variables the functions hang -/
def orS (ts : List Tb) : Nat := ts.foldl (fun a t => a ||| supN t.N t.ws) 0
theorem orS_snoc (ts : List Tb) (t : Tb) : orS (ts ++ [t]) = orS ts ||| supN t.N t.ws := by simp [orS]
theorem orS_bit (u : Nat) : ∀ (ts : List Tb) (a : Nat), (ts.foldl (fun a t => a ||| supN t.N t.ws) a).testBit u = true ↔ a.testBit u = true ∨ ∃ t ∈ ts, (supN t.N t.ws).testBit u = true
  | [], a => by simp
  | t :: ts, a => by
    rw [List.foldl_cons, orS_bit u ts, Nat.testBit_or, Bool.or_eq_true]
    constructor
    · rintro ((h | h) | ⟨t', h1, h2⟩)
      · exact .inl h
      · exact .inr ⟨t, List.mem_cons_self, h⟩
      · exact .inr ⟨t', List.mem_cons_of_mem _ h1, h2⟩
    · rintro (h | ⟨t', h1, h2⟩)
      · exact .inl (.inl h)
      · rcases List.mem_cons.1 h1 with rfl | h1
        · exact .inl (.inr h2)
        · exact .inr ⟨t', h1, h2⟩
theorem orS_lt : ∀ (ts : List Tb) (a : Nat), a < 65536 → ts.foldl (fun a t => a ||| supN t.N t.ws) a < 65536
  | [], _, h => h
  | _ :: ts, _, h => orS_lt ts _ (Nat.or_lt_two_pow (n := 16) h (supN_lt _ _))
theorem unused_law {xs : List Tb} {os : List Int} (hall : AllN os.length xs) (he : prE xs os = 0) {k v : Nat} (hv : os[k]? = some (v : Int)) : ∃ c : Nat, (prL xs os)[k]? = some (c : Int) ∧ ((orS xs).testBit v = decide (0 < c)) := by
  obtain ⟨_, hper⟩ := prE_16 he
  have hvn := hper.1 _ (List.mem_of_getElem? hv)
  obtain ⟨c, h1, h2⟩ := lev_pos he hv
  refine ⟨c, h1, ?_⟩
  rw [Bool.eq_iff_iff, decide_eq_true_eq, h2]
  unfold orS
  rw [orS_bit]
  constructor
  · rintro (h | ⟨t, ht, hb⟩)
    · simp at h
    · obtain ⟨e1, e2, _⟩ := hall t ht
      rw [e1] at hb
      exact ⟨t, ht, (sup_dep e2 (by omega)).1 hb⟩
  · rintro ⟨t, ht, hd⟩
    obtain ⟨e1, e2, _⟩ := hall t ht
    exact .inr ⟨t, ht, by rw [e1]; exact (sup_dep e2 (by omega)).2 hd⟩
end Go.Proofs.Ytjgndclfbcijmaa


/- WholeShape: unused. -/
namespace Go.Proofs.Ytjgndclfbcijmaa
open Go.RowKit Go.Tk Go.Maps

set_option maxRecDepth 100000 in
set_option maxHeartbeats 4000000 in
theorem unused_any (N : Nat) (B : Option Addr) (m D : Nat) (ts : List Tb) (Ao : Option Addr) (Co : Nat) (os : List Int) (Al : Option Addr) (Cl : Nat) (w : World) (h : Sl w 2 Tb.cells B m ts) (hok : ∀ t ∈ ts, TbOk w t) (hall : AllN N ts) (hp : PermN N os) (h16 : N ≤ 16) (hm : m ≤ 1048576) (ho : IL w Ao N os) (hl : IL w Al N (prL ts os)) :
    Calls Try.prog 11 #[.int .i64 N, .slice B m D, .slice Ao N Co, .slice Al N Cl] w fun e w' => e = .returned (.bool true) ∧ Same w w' := by
  have H := Lib.hid h
  have HOK := Lib.hid hok
  have HRL := Lib.hid h.len
  have HALL := Lib.hid hall
  have HO := Lib.hid ho
  have HL := Lib.hid hl
  have HP := Lib.hid hp
  have HU := Lib.hid (fun (k v : Nat) (hv : os[k]? = some (v : Int)) => unused_law (xs := ts) (os := os) (by rw [hp.len]; exact hall) (all_ok hall hp h16) hv)
  clear h hok hall ho hl hp
  go_enter Try.func11, Try.ntmps11
  go_wp2
  go_loopw [9, 10] (fun a i wi => ∃ k : Nat, k ≤ m ∧ i = .int .i64 k ∧ a = .int .u64 (orS (ts.take k) : Nat) ∧ Same w wi) (fun _ i _ => m - (intOf i).toNat)
  case atStart => exact ⟨0, by omega, rfl, rfl, Frm.refl _ _⟩
  case round =>
    obtain ⟨k, hk, rfl, rfl, hs⟩ := hrel
    by_cases hlt : k < m
    · obtain ⟨t, ht⟩ : ∃ t, ts[k]? = some t := ⟨_, List.getElem?_eq_getElem (by rw [← HRL.out]; exact hlt)⟩
      obtain ⟨bl, o, hA, hbl, hc⟩ := (Sl.same H.out hs).get k t ht
      have c0 : wr.cell? ⟨bl, o + k * 2, none⟩ = some (.int .i64 t.N) := hc 0 (by omega)
      have c1 : wr.cell? ⟨bl, o + k * 2 + 1, none⟩ = some (.slice t.A t.ws.length t.C) := hc 1 (by omega)
      subst hA
      obtain ⟨hTn, hTf, _⟩ := HALL.out t (List.mem_of_getElem? ht)
      have hfr : frm t.N t.ws = true := by rw [hTn]; exact frm_nat.2 hTf
      have HTK := Lib.hid (show orS (ts.take (k + 1)) = orS (ts.take k) ||| supN t.N t.ws by rw [List.take_add_one, ht, ← orS_snoc]; rfl)
      have HSU := Lib.hid (Support_any t.N t.A t.C t.ws wr ((HOK.out t (List.mem_of_getElem? ht)).same hs))
      rw [hfr, show fmE true = 0 from rfl] at HSU
      obtain ⟨a, ha⟩ : ∃ z, z = orS (ts.take k) := ⟨_, rfl⟩
      have ha16 : a < 65536 := by rw [ha]; exact orS_lt _ 0 (by omega)
      obtain ⟨s, hsd⟩ : ∃ z, z = supN t.N t.ws := ⟨_, rfl⟩
      have hs16 : s < 65536 := by rw [hsd]; exact supN_lt _ _
      rw [← ha, ← hsd] at HTK
      rw [← hsd] at HSU
      rw [← ha]
      have hor := u64_or_nat a s (by omega) (by omega)
      have HS := Lib.hid hs
      have hk0 : (0 : Int) ≤ k := by omega
      have hk1 : (k : Int) < m := by omega
      clear hc ht hTn hTf hfr ha hsd hs
      go_wp2_with (fail)
      refine HSU.out.mono ?_
      rintro e w2 ⟨rfl, hs⟩
      have HS2 := Lib.hid (HS.out.trans hs (fun _ _ h => h))
      clear hs c0 c1 hbl HS
      go_wp2
      go_roundw
      case rel => exact ⟨k + 1, by omega, by go_num, by rw [HTK.out], HS2.out⟩
      case measure => simp [intOf] <;> omega
    · obtain rfl : k = m := by omega
      have hob : (orS (ts.take k)) = orS ts := by rw [List.take_of_length_le (by rw [← HRL.out]; exact Nat.le_refl _)]
      rw [hob]
      obtain ⟨a, ha⟩ : ∃ z, z = orS ts := ⟨_, rfl⟩
      have ha16 : a < 65536 := by rw [ha]; exact orS_lt _ 0 (by omega)
      rw [← ha] at HU ⊢
      have HS := Lib.hid hs
      obtain ⟨w1, hw1⟩ : ∃ z, z = wr := ⟨_, rfl⟩
      subst hw1
      clear hob ha hs
      go_wp2
      go_loopw [13] (fun i wi => ∃ j : Nat, j ≤ N ∧ i = .int .i64 j ∧ Same w1 wi) (fun i _ => N - (intOf i).toNat)
      case atStart => exact ⟨0, by omega, rfl, Frm.refl _ _⟩
      case round =>
        obtain ⟨j, hj, rfl, hs⟩ := hrel
        by_cases hlj : j < N
        · obtain ⟨v, hv, hvn⟩ := IsPerm.at HP.out.perm (show j < os.length by rw [HP.out.len]; exact hlj)
          rw [HP.out.len] at hvn
          obtain ⟨c, hc, hcb⟩ := HU.out j v hv
          have hs2 := HS.out.trans hs (fun _ _ h => h)
          obtain ⟨bo, oo, hAo, hbo, hco⟩ := (Sl.same HO.out hs2).at1 hv
          obtain ⟨bc, oc, hAc, hbc, hcc⟩ := (Sl.same HL.out hs2).at1 hc
          subst hAo hAc
          obtain ⟨b, hb⟩ : ∃ z, z = a.testBit v := ⟨_, rfl⟩
          have hbi : (bits .and .u64 ((a : Int) / 2 ^ v) 1 == 1) = b := by rw [hb]; exact sbit_int (by omega) v
          have hd1 : decide ((0 : Int) < (c : Int)) = b := by rw [hb, hcb, decide_eq_decide]; omega
          have hd2 : decide (0 < c) = b := by rw [hb, hcb]
          have hbb : (b != b) = false := by simp
          have HSR := Lib.hid hs
          have hj0 : (0 : Int) ≤ j := by omega
          have hj1 : (j : Int) < N := by omega
          have hv0 : (0 : Int) ≤ v := by omega
          have hvm : min v 64 = v := by omega
          clear hv hc hcb hb hs hs2
          go_upto_region 12 with fail
          refine wp_quiet (by kernel_rfl) (by kernel_rfl) ?_
          repeat (any_goals (first | go_big_quiet_step (fail) | quiet_step (fail)))
          refine wpQuiet_nil ?_
          rintro wz ⟨q, hq⟩
          have HSZ := Lib.hid (HSR.out.trans (show Same wr wz by rw [hq]; exact more_same _ q) (fun _ _ h => h))
          clear hq hco hcc hbo hbc
          go_wp2
          go_roundw
          case rel => exact ⟨j + 1, by omega, by go_num, HSZ.out⟩
          case measure => simp [intOf] <;> omega
        · obtain rfl : j = N := by omega
          have HSF := Lib.hid (HS.out.trans hs (fun _ _ h => h))
          clear hs
          go_wp2
          go_ret
          exact ⟨rfl, HSF.out⟩
end Go.Proofs.Ytjgndclfbcijmaa


/- Shape: the document's Permutation. -/
namespace Go.Proofs.Ytjgndclfbcijmaa
open Go.RowKit Go.Tk

end Go.Proofs.Ytjgndclfbcijmaa


/- Shape: ShapeNames: the walk. -/
namespace Go.Proofs.Ytjgndclfbcijmaa
open Go.RowKit Go.Tk Go.Maps

theorem info_tb : (Try.prog.info? 30).map (fun i => (i.zero, i.size, i.bytes)) = some (some (.agg #[.int .i64 0, .slice none 0 0]), 2, 32) := by kernel_rfl
theorem own_rw {w : World} {e : TypeId} {m : Nat} {α : Type} {f : α → List Value} {A : Option Addr} {N C : Nat} {xs : List α} (h : Own w e m f A N C xs) : ∀ b, rowOf A b → b < w.heap.size := by
  rintro b ⟨a, ha, rfl⟩
  exact h.block a ha
/-- the renamed so far: a list of new tables -/
structure NL (w0 w : World) (nn : Nat) (ns : List Int) (xs : List Tb) (k : Nat) (A : Option Addr) (D : Nat) (ts : List Tb) : Prop where
  same : Same w0 w
  own : Own w 30 2 Tb.cells A k D ts
  fresh : Fresh w0.heap.size A
  rows : ∀ (i : Nat) (t : Tb), ts[i]? = some t → OwnW w t.A t.ws.length t.C t.ws ∧ ∃ x, xs[i]? = some x ∧ t.N = (nn : Int) ∧ t.ws = rnT nn ns x.ws
theorem NL.next {w0 w w' : World} {nn : Nat} {ns : List Int} {xs : List Tb} {k : Nat} {A : Option Addr} {D : Nat} {ts : List Tb} (h : NL w0 w nn ns xs k A D ts) (hs : Same w w') : NL w0 w' nn ns xs k A D ts :=
  ⟨h.same.trans hs (fun _ _ h => h), Own.frm h.own hs (fun _ _ => id), h.fresh, fun i t hi => ⟨Own.frm (h.rows i t hi).1 hs (fun _ _ => id), (h.rows i t hi).2⟩⟩
theorem NL.step {w0 w wa wb : World} {nn : Nat} {ns : List Int} {xs : List Tb} {k : Nat} {A : Option Addr} {D : Nat} {ts : List Tb} (h : NL w0 w nn ns xs k A D ts) (hs : Same w wa) {t x : Tb} (hx : xs[k]? = some x) (ht : OwnW wa t.A t.ws.length t.C t.ws) (hN : t.N = (nn : Int)) (hw : t.ws = rnT nn ns x.ws) {g D' : Nat}
    (hg : wa.grownBy wb (Value.slice A k D).ownBlock) (ho : Own wb 30 2 Tb.cells (some ⟨g, 0, none⟩) (k + 1) D' (ts ++ [t])) (hat : (A = some ⟨g, 0, none⟩ ∧ D' = D) ∨ (g = wa.heap.size ∧ wa.grownBy wb none)) : NL w0 wb nn ns xs (k + 1) (some ⟨g, 0, none⟩) D' (ts ++ [t]) := by
  have h1 := h.next hs
  have hsz := h1.same.size
  have kp : ∀ {B : Option Addr} {N C : Nat} {ys : List Nat}, OwnW wa B N C ys → OwnW wb B N C ys := fun ho => Own.keptBy ho hg (fun b hb hA => Own.ne_own ho h1.own (by decide) b hA (ownBlock_row.1 hb))
  refine ⟨h1.same.grown hg (fun g hg => .inr (h.fresh g (ownBlock_row.1 hg))), ho, ?_, fun i s hi => ?_⟩
  · rcases hat with ⟨h2, _⟩ | ⟨h2, _⟩
    · rw [← h2]; exact h.fresh
    · exact fresh_some (by omega)
  · rcases Nat.lt_or_ge i ts.length with hl | hl
    · rw [List.getElem?_append_left hl] at hi
      exact ⟨kp (h1.rows i s hi).1, (h1.rows i s hi).2⟩
    · rw [List.getElem?_append_right hl] at hi
      have h3 := lt_of_get hi
      simp at h3
      have h4 : i - ts.length = 0 := by omega
      rw [h4] at hi
      obtain rfl := Option.some.inj hi
      have hk : i = k := by have := h.own.len; omega
      subst hk
      exact ⟨kp ht, x, hx, hN, hw⟩
theorem ren_ok {nn : Nat} {p : List Int} (hp : PermN nn p) (A : Option Addr) (C : Nat) (ws : List Nat) (Ap : Option Addr) (Lp Cp : Nat) (w : World) (h : TbOk w ⟨(nn : Int), A, C, ws⟩) (hf : FormN nn ws) (hi : IL w Ap Lp p) (hLp : Lp ≤ 1000000000000000000) : Calls Try.prog 9 #[.agg #[.int .i64 nn, .slice A ws.length C], .slice Ap Lp Cp] w (RetTE w nn (rnT nn p ws) 0) := by
  have h1 := Renamed_any (nn : Int) A C ws Ap Lp Cp p w h hi hLp
  have h2 : rnE (nn : Int) p ws = 0 := by
    unfold rnE
    rw [if_pos (frm_nat.2 hf), Int.toNat_natCast, if_pos (prmB_true.2 hp)]
  rw [h2] at h1
  exact h1
end Go.Proofs.Ytjgndclfbcijmaa


/- Permutations: Rank of the program. -/
namespace Go.Tk
theorem IL.drop {w : World} {A : Option Addr} {n C : Nat} {xs : List Int} {b off k : Nat} (h : IL w (some ⟨b, off, none⟩) n xs) (hA : A = if C = k then some ⟨b, off, none⟩ else some ⟨b, off + k, none⟩) (hC : n ≤ C) : IL w A (n - k) (xs.drop k) := by
  obtain rfl := h.len
  refine ⟨by rw [List.length_drop], fun i x hi => ?_⟩
  rw [List.getElem?_drop] at hi
  have hl := lt_of_get hi
  obtain ⟨b', off', h1, h2, h3⟩ := h.get (k + i) x hi
  injection h1 with h1
  injection h1 with h1 h4
  subst h1 h4
  rw [if_neg (by omega)] at hA
  refine ⟨b, off + k, hA, h2, fun j hj => ?_⟩
  have := h3 j hj
  rwa [show off + k + i * 1 + j = off + (k + i) * 1 + j by omega]
end Go.Tk
namespace Go.Proofs.Ytjgndclfbcijmaa
open Go.RowKit Go.Tk

end Go.Proofs.Ytjgndclfbcijmaa


/- Permutations: the first look of the laws. -/
namespace Go.Proofs.Ytjgndclfbcijmaa
open Go.RowKit Go.Tk

theorem NewL.il {w w' : World} {ys : List Int} {A : Option Addr} {C : Nat} (h : NewL w ys A C w') : IL w' A ys.length ys := Own.il h.1
theorem lit_il {w w' : World} (ys : List Int) (hm : ys.length ≤ 1000) {cs : Array Value} (hcs : cs = (ys.flatMap icell).toArray) (hw : w' = w.alloc (.cells cs 3)) : IL w' (some ⟨w.heap.size, 0, none⟩) ys.length ys := by
  rw [hw]
  exact (lit_new w ys hm hcs).il
end Go.Proofs.Ytjgndclfbcijmaa
