/- Contracts and plain laws, put together in one file. No condition. -/
import Derived.Test.YtakepdkokjecoaaJShapeFixed2
import Derived.BigRegion


/- Shape: check, Profile, Size, Level. -/
namespace Go.Proofs.Ytakepdkokjecoaa
open Go.RowKit Go.Tk Go.Maps

set_option maxHeartbeats 2000000 in
theorem scheck_any (AL : Option Addr) (n C : Nat) (ts : List Tb) (w : World) (h : Sl w 2 Tb.cells AL n ts) (hn1 : n ≤ 1000000000000000000) (hok : ∀ t ∈ ts, TbOk w t) :
    Calls Try.prog 25 #[.slice AL n C] w fun e w' => e = .returned (.bool (fm ts)) ∧ Same w w' := by
  have hn := h.len
  have H := Lib.hid h
  have HOK := Lib.hid hok
  obtain ⟨r, hr⟩ : ∃ r, fm ts = r := ⟨_, rfl⟩
  rw [hr]
  have HR := Lib.hid hr
  have HN := Lib.hid hn
  clear h hok hr hn
  go_enter Try.func25, Try.ntmps25
  go_wp2
  go_loopw [7] (fun i wr => ∃ k : Nat, k ≤ n ∧ i = .int .i64 k ∧ (∀ j t, ts[j]? = some t → j < k → t.frm = true ∧ t.N = (ts.getD 0 ⟨0, none, 0, []⟩).N) ∧ Same w wr) (fun i _ => n - (intOf i).toNat)
  case atStart => exact ⟨0, by omega, rfl, fun j t _ h => by omega, Frm.refl _ _⟩
  case round =>
    obtain ⟨k, hk, rfl, hall, hs⟩ := hrel
    have HALL := Lib.hid hall
    have HS := Lib.hid hs
    by_cases hlt : k < n
    · have hi1 : (k : Int) < n := by omega
      have hi0 : (0 : Int) ≤ k := by omega
      have hn0 : (0 : Int) < n := by omega
      obtain ⟨t, ht⟩ : ∃ t, ts[k]? = some t := ⟨_, List.getElem?_eq_getElem (by rw [← HN.out]; exact hlt)⟩
      obtain ⟨t0, ht0⟩ : ∃ t, ts[0]? = some t := ⟨_, List.getElem?_eq_getElem (by rw [← HN.out]; omega)⟩
      have hd0 : ts.getD 0 ⟨0, none, 0, []⟩ = t0 := by rw [List.getD_eq_getElem?_getD, ht0]; rfl
      obtain ⟨g, o, hA, hg, hc⟩ := (Sl.same H.out hs).get k t ht
      have hc0 : wr.cell? ⟨g, o + k * 2, none⟩ = some (.int .i64 t.N) := hc 0 (by omega)
      have hc1 : wr.cell? ⟨g, o + k * 2 + 1, none⟩ = some (.slice t.A t.ws.length t.C) := hc 1 (by omega)
      obtain ⟨g', o', hA', _, hz⟩ := (Sl.same H.out hs).get 0 t0 ht0
      rw [hA] at hA'
      injection hA' with hA'
      injection hA' with hA1 hA2
      subst hA1 hA2
      have hz0 : wr.cell? ⟨g, o, none⟩ = some (.int .i64 t0.N) := by simpa [Tb.cells] using hz 0 (by omega)
      subst hA
      clear hc hz
      have htok := HOK.out t (List.mem_of_getElem? ht)
      have hne : g ≠ wr.heap.size := by omega
      have HT := Lib.hid ht
      have HD0 := Lib.hid hd0
      clear ht ht0 hd0 hall hs
      obtain ⟨tN, tA, tC, tws⟩ := t
      obtain ⟨zN, zA, zC, zws⟩ := t0
      simp only at hc0 hc1 hz0
      have HTOK := Lib.hid htok
      clear htok
      have hbx : ∃ b, (Tb.mk tN tA tC tws).frm = b := ⟨_, rfl⟩
      obtain ⟨bb, hbb⟩ := hbx
      go_upto_region 4 with fail
      refine wp_world fun wa hwa => ?_
      have hsa : Same wr wa := by rw [hwa]; exact (Frm.refl _ _).alloc _
      have hB := Blk.new wr 37 #[.int .i64 tN, .slice tA tws.length tC]
      rw [← hwa] at hB
      have hb0 : wa.cell? ⟨wr.heap.size, 0, none⟩ = some (.int .i64 tN) := hB.cell 0
      have hb1 : wa.cell? ⟨wr.heap.size, 1, none⟩ = some (.slice tA tws.length tC) := hB.cell 1
      have hbl := hB.lt
      have hza : wa.cell? ⟨g, o, none⟩ = some (.int .i64 zN) := (hsa.cell (p := ⟨g, o, none⟩) hg id).trans hz0
      have hga : g < wa.heap.size := by omega
      have hfc : ∀ w', Same wa w' → Calls Try.prog 36 #[.agg #[.int .i64 tN, .slice tA tws.length tC]] w' fun e w'' => e = .returned (.bool bb) ∧ Same w' w'' := fun w' hs' => by
        have := HTOK.out.form ((HS.out.trans hsa (fun _ _ h => h)).trans hs' (fun _ _ h => h))
        rw [hbb] at this
        exact this
      have HFC := Lib.hid hfc
      have HSA := Lib.hid (HS.out.trans hsa (fun _ _ h => h))
      have HBB := Lib.hid hbb
      clear hwa hsa hB hc0 hc1 hz0 hg hfc HTOK hbb
      cases bb with
      | false =>
        have hf : r = false := by
          rw [← HR.out]
          unfold fm
          rw [List.all_eq_false]
          exact ⟨_, List.mem_of_getElem? HT.out, by simp [HBB.out]⟩
        subst hf
        refine wp_quiet (by kernel_rfl) (by kernel_rfl) ?_
        repeat (any_goals (first | go_big_quiet_step ((go_at_call 36; exact quiet_call (HFC.out _ (more_same _ _)))) | quiet_step ((go_at_call 36; exact quiet_call (HFC.out _ (more_same _ _))))))
        refine wpQuiet_nil ?_
        rintro _ ⟨q, rfl⟩
        go_wp2
        go_ret
        exact ⟨rfl, HSA.out.trans (more_same _ q) (fun _ _ h => h)⟩
      | true =>
        by_cases hNN : tN = zN
        · subst hNN
          refine wp_quiet (by kernel_rfl) (by kernel_rfl) ?_
          repeat (any_goals (first | go_big_quiet_step ((go_at_call 36; exact quiet_call (HFC.out _ (more_same _ _)))) | quiet_step ((go_at_call 36; exact quiet_call (HFC.out _ (more_same _ _))))))
          refine wpQuiet_nil ?_
          rintro _ ⟨q, rfl⟩
          go_wp2
          go_roundw
          case rel => exact ⟨k + 1, by omega, by go_num, fun j t hj hjk => by
            by_cases hjk2 : j < k
            · exact HALL.out j t hj hjk2
            · obtain rfl : j = k := by omega
              obtain rfl := Option.some.inj (hj.symm.trans HT.out)
              exact ⟨HBB.out, by rw [HD0.out]⟩, HSA.out.trans (more_same _ q) (fun _ _ h => h)⟩
          case measure => simp [intOf] <;> omega
        · have hne2 : (tN != zN) = true := by simpa using hNN
          have hf : r = false := by
            rw [← HR.out]
            unfold fm
            rw [List.all_eq_false]
            exact ⟨_, List.mem_of_getElem? HT.out, by rw [HD0.out]; simp [hNN]⟩
          subst hf
          clear hNN
          refine wp_quiet (by kernel_rfl) (by kernel_rfl) ?_
          repeat (any_goals (first | go_big_quiet_step ((go_at_call 36; exact quiet_call (HFC.out _ (more_same _ _)))) | quiet_step ((go_at_call 36; exact quiet_call (HFC.out _ (more_same _ _))))))
          refine wpQuiet_nil ?_
          rintro _ ⟨q, rfl⟩
          go_wp2
          go_ret
          exact ⟨rfl, HSA.out.trans (more_same _ q) (fun _ _ h => h)⟩
    · obtain rfl : k = n := by omega
      have hf : r = true := by
        rw [← HR.out]
        unfold fm
        rw [List.all_eq_true]
        intro t ht
        obtain ⟨j, hj⟩ := List.getElem?_of_mem ht
        have := HALL.out j t hj (by rw [HN.out]; exact lt_of_get hj)
        simp [this]
      subst hf
      clear hall hs HALL
      go_wp2
      go_ret
      exact ⟨rfl, HS.out⟩

/-- each once -/
def uniq : List (List Nat) → List (List Nat)
  | [] => []
  | x :: xs => if x ∈ uniq xs then uniq xs else x :: uniq xs
theorem mem_uniq {y : List Nat} : ∀ {xs : List (List Nat)}, y ∈ uniq xs ↔ y ∈ xs
  | [] => Iff.rfl
  | x :: xs => by
    have ih := mem_uniq (y := y) (xs := xs)
    unfold uniq
    split
    · rename_i hx
      rw [ih, List.mem_cons]
      constructor
      · exact .inr
      · rintro (rfl | h)
        · exact mem_uniq.1 hx
        · exact h
    · rw [List.mem_cons, List.mem_cons, ih]
theorem uniq_nodup : ∀ xs : List (List Nat), (uniq xs).Nodup
  | [] => List.nodup_nil
  | x :: xs => by
    unfold uniq
    split
    · exact uniq_nodup xs
    · rename_i hx
      exact List.nodup_cons.2 ⟨hx, uniq_nodup xs⟩
theorem uniq_len : ∀ xs : List (List Nat), (uniq xs).length ≤ xs.length
  | [] => Nat.le_refl _
  | x :: xs => by
    have := uniq_len xs
    unfold uniq
    split
    · rw [List.length_cons]; omega
    · rw [List.length_cons, List.length_cons]; omega
def stepS (nn v : Nat) (L : List (List Nat)) : List (List Nat) := uniq (L.map (loT nn v) ++ L.map (hiT nn v))
theorem stepS_mem {nn v : Nat} {L : List (List Nat)} {y : List Nat} : y ∈ stepS nn v L ↔ ∃ x ∈ L, y = loT nn v x ∨ y = hiT nn v x := by
  unfold stepS
  rw [mem_uniq, List.mem_append, List.mem_map, List.mem_map]
  constructor
  · rintro (⟨x, h, rfl⟩ | ⟨x, h, rfl⟩)
    · exact ⟨x, h, .inl rfl⟩
    · exact ⟨x, h, .inr rfl⟩
  · rintro ⟨x, h, rfl | rfl⟩
    · exact .inl ⟨x, h, rfl⟩
    · exact .inr ⟨x, h, rfl⟩
theorem stepS_len (nn v : Nat) (L : List (List Nat)) : (stepS nn v L).length ≤ 2 * L.length := by
  have := uniq_len (L.map (loT nn v) ++ L.map (hiT nn v))
  rw [List.length_append, List.length_map, List.length_map] at this
  unfold stepS
  omega
def setAt (nn : Nat) (L : List (List Nat)) (vs : List Nat) : List (List Nat) := vs.foldl (fun L v => stepS nn v L) L
theorem setAt_snoc (nn : Nat) (L : List (List Nat)) (vs : List Nat) (v : Nat) : setAt nn L (vs ++ [v]) = stepS nn v (setAt nn L vs) := by simp [setAt]
theorem setAt_len (nn : Nat) : ∀ (vs : List Nat) (L : List (List Nat)), (setAt nn L vs).length ≤ 2 ^ vs.length * L.length
  | [], L => by simp [setAt]
  | v :: vs, L => by
    have h := setAt_len nn vs (stepS nn v L)
    have h2 := stepS_len nn v L
    have h3 : 2 ^ vs.length * (stepS nn v L).length ≤ 2 ^ vs.length * (2 * L.length) := Nat.mul_le_mul_left _ h2
    rw [List.length_cons, Nat.pow_succ, Nat.mul_assoc]
    exact Nat.le_trans h h3
theorem setAt_nodup {nn : Nat} : ∀ (vs : List Nat) {L : List (List Nat)}, L.Nodup → (setAt nn L vs).Nodup
  | [], _, h => h
  | _ :: vs, _, _ => setAt_nodup vs (uniq_nodup _)
theorem setAt_form {nn : Nat} (h16 : nn ≤ 16) : ∀ (vs : List Nat) {L : List (List Nat)}, (∀ x ∈ L, FormN nn x) → ∀ x ∈ setAt nn L vs, FormN nn x
  | [], _, h => h
  | _ :: vs, _, h => setAt_form h16 vs fun x hx => by
    obtain ⟨y, _, rfl | rfl⟩ := stepS_mem.1 hx
    · exact tab_form h16
    · exact tab_form h16
/-- the levels' numbers; a set stays while a row of other cells grows -/
theorem ST.grownI {lo : Nat} {w w' : World} {b n : Nat} {D : DataW Value} {N : Int} {M : List Nat → Prop} {A : Option Addr} {k C : Nat} {ys : List Int} (h : ST lo w b n D N M) (ho : OwnI w 3 A k C ys) (hl : ∀ x, rowOf A x → x < lo) (hg : w.grownBy w' (Value.slice A k C).ownBlock) : ST lo w' b n D N M := by
  refine ⟨h.own.kept hg (fun he => ?_), h.dom, h.cod, fun ws hw => ?_, h.good⟩
  · have hr := ownBlock_row.1 he.symm
    rcases ho.own.2 with ⟨h0, _⟩ | ⟨g, cap, cur, h1, _, h2, _⟩
    · injection h0 with h0
      subst h0
      obtain ⟨a, ha, _⟩ := hr
      cases ha
    · injection h1 with h1
      subst h1
      obtain ⟨a, ha, hb⟩ := hr
      injection ha with ha
      subst ha
      obtain ⟨es, clock, h3, _⟩ := h.own
      simp only at hb
      rw [← hb, h2] at h3
      cases h3
  · obtain ⟨A1, C1, h1, h2, h3⟩ := h.val ws hw
    refine ⟨A1, C1, h1, ⟨h2.len, fun i x hi => ?_⟩, h3⟩
    obtain ⟨b0, off, e1, e2, e3⟩ := h2.get i x hi
    refine ⟨b0, off, e1, Nat.lt_of_lt_of_le e2 hg.size, fun j hj => ?_⟩
    rw [← e3 j hj]
    have hb : w'.heap[b0]? = w.heap[b0]? := hg.block b0 e2 (fun he => by
      have h4 := hl b0 (ownBlock_row.1 he.symm)
      have h5 := h3 b0 ⟨_, e1, rfl⟩
      omega)
    unfold World.cell?
    rw [hb]
def proL (nn : Nat) (L : List (List Nat)) (vs : List Nat) (k : Nat) : List Int := (List.range k).map fun i => ((cntL nn (vs.getD i 0) (setAt nn L (vs.take i)) : Nat) : Int)
theorem proL_succ (nn : Nat) (L : List (List Nat)) (vs : List Nat) (k : Nat) : proL nn L vs (k + 1) = proL nn L vs k ++ [((cntL nn (vs.getD k 0) (setAt nn L (vs.take k)) : Nat) : Int)] := by simp [proL, List.range_succ]
theorem proL_len (nn : Nat) (L : List (List Nat)) (vs : List Nat) (k : Nat) : (proL nn L vs k).length = k := by simp [proL]
def tN0 (xs : List Tb) : Int := (xs.getD 0 ⟨0, none, 0, []⟩).N
def tSet (xs : List Tb) : List (List Nat) := uniq (xs.map Tb.ws)
def prE (xs : List Tb) (os : List Int) : Int := if fm xs then (if (0 < xs.length ∧ (os.length : Int) ≠ tN0 xs) ∨ chk os = 4 then 4 else if 16 < os.length then 6 else 0) else 5
def prL (xs : List Tb) (os : List Int) : List Int := if prE xs os = 0 then proL os.length (tSet xs) (os.map Int.toNat) os.length else []
theorem fm_all {xs : List Tb} (h : fm xs = true) : ∀ t ∈ xs, frm t.N t.ws = true ∧ t.N = tN0 xs := fun t ht => by
  have := (List.all_eq_true.1 h) t ht
  simp only [Bool.and_eq_true, beq_iff_eq] at this
  exact this
theorem tSet_form {xs : List Tb} {nn : Nat} (h : fm xs = true) (hn : xs ≠ [] → tN0 xs = nn) : ∀ ws ∈ tSet xs, FormN nn ws := fun ws hw => by
  have := mem_uniq.1 hw
  obtain ⟨t, ht, rfl⟩ := List.mem_map.1 this
  obtain ⟨h1, h2⟩ := fm_all h t ht
  rw [h2, hn (by rintro rfl; cases ht)] at h1
  exact frm_nat.1 h1
theorem form_len {nn : Nat} {ws : List Nat} (h : FormN nn ws) (h16 : nn ≤ 16) : 0 < ws.length ∧ ws.length ≤ 1024 := by
  have h1 := h.len
  have := nw_le h16
  have h2 : 0 < nw nn := by
    unfold nw
    split
    · omega
    · exact Nat.two_pow_pos _
  omega
theorem tSet_len (xs : List Tb) : (tSet xs).length ≤ xs.length := by
  have := uniq_len (xs.map Tb.ws)
  rw [List.length_map] at this
  exact this
set_option maxRecDepth 100000 in
set_option maxHeartbeats 16000000 in
theorem profile_any (AL : Option Addr) (n C : Nat) (xs : List Tb) (Ao : Option Addr) (Lo Co : Nat) (os : List Int) (w : World) (h : Sl w 2 Tb.cells AL n xs) (hok : ∀ t ∈ xs, TbOk w t) (hn : n ≤ 8796093022210) (ho : IL w Ao Lo os) (hLo : Lo * 8 ≤ 140737488351232) :
    Calls Try.prog 11 #[.slice AL n C, .slice Ao Lo Co] w (RetE w (prL xs os) (prE xs os)) := by
  obtain rfl := ho.len
  have H := Lib.hid h
  have HOK := Lib.hid hok
  have HO := Lib.hid ho
  have hxl := h.len
  have HXL := Lib.hid hxl
  clear h hok ho hxl
  obtain ⟨r, hr⟩ : ∃ r, fm xs = r := ⟨_, rfl⟩
  go_enter Try.func11, Try.ntmps11
  go_wp2_with (fail)
  refine (scheck_any AL n C xs w H.out (by omega) HOK.out).mono ?_
  rintro e w1 ⟨rfl, hs⟩
  rw [hr]
  have HS := Lib.hid hs
  clear hs
  cases r with
  | false =>
    have HPE := Lib.hid (show prE xs os = 5 by unfold prE; rw [hr]; rfl)
    have HPL := Lib.hid (show prL xs os = [] by unfold prL; rw [HPE.out]; rfl)
    clear hr
    go_wp2
    go_ret2
    exact ⟨none, 0, by rw [HPL.out, HPE.out]; rfl, by rw [HPL.out]; exact NewL.nil' HS.out⟩
  | true =>
    have HFM := Lib.hid hr
    clear hr
    by_cases hn0 : n = 0
    · have hx0 : xs = [] := List.eq_nil_of_length_eq_zero (by rw [← HXL.out]; exact hn0)
      have hnp : ¬ (0 : Int) < n := by omega
      have HCO := Lib.hid (show chk os ≠ 4 → ¬ ((0 < xs.length ∧ (os.length : Int) ≠ tN0 xs) ∨ chk os = 4) from fun h4 h => by
        rcases h with ⟨h, _⟩ | h
        · rw [← HXL.out] at h; omega
        · exact h4 h)
      have HNE := Lib.hid (show xs ≠ [] → tN0 xs = (os.length : Nat) from fun h => absurd hx0 h)
      clear hx0 hn0
      go_wp2_with (fail)
      refine (check_any Ao os.length Co os w1 (Sl.same HO.out HS.out) hLo).mono ?_
      rintro e w2 ⟨rfl, hs⟩
      replace HS := Lib.hid (HS.out.trans hs (fun _ _ h => h))
      clear hs
      by_cases hc4 : chk os = 4
      · have HPE := Lib.hid (show prE xs os = 4 by unfold prE; rw [HFM.out, if_pos rfl, if_pos (.inr hc4)])
        have HPL := Lib.hid (show prL xs os = [] by unfold prL; rw [HPE.out]; rfl)
        rw [hc4]
        go_wp2
        go_ret2
        exact ⟨none, 0, by rw [HPL.out, HPE.out]; rfl, by rw [HPL.out]; exact NewL.nil' HS.out⟩
      · have hc4' : (chk os == 4) = false := by simpa using hc4
        have hper : IsPerm os := by
          by_cases hp : IsPerm os
          · exact hp
          · exact absurd (by unfold chk; rw [if_neg hp]) hc4
        have HPM := Lib.hid hper
        have hcond := HCO.out hc4
        have HCOND := Lib.hid hcond
        obtain ⟨ck, hck⟩ : ∃ z, z = chk os := ⟨_, rfl⟩
        rw [← hck] at hc4' ⊢
        clear hc4 hper hck hcond
        by_cases h16 : 16 < os.length
        · have HPE := Lib.hid (show prE xs os = 6 by unfold prE; rw [HFM.out, if_pos rfl, if_neg HCOND.out, if_pos h16])
          have HPL := Lib.hid (show prL xs os = [] by unfold prL; rw [HPE.out]; rfl)
          have h16' : (16 : Int) < os.length := by omega
          go_wp2
          go_ret2
          exact ⟨none, 0, by rw [HPL.out, HPE.out]; rfl, by rw [HPL.out]; exact NewL.nil' HS.out⟩
        · have HPE := Lib.hid (show prE xs os = 0 by unfold prE; rw [HFM.out, if_pos rfl, if_neg HCOND.out, if_neg h16])
          have HPL := Lib.hid (show prL xs os = proL os.length (tSet xs) (os.map Int.toNat) os.length by unfold prL; rw [HPE.out, if_pos rfl])
          have h16' : ¬ (16 : Int) < os.length := by omega
          have hFN : ∀ ws ∈ tSet xs, FormN os.length ws := tSet_form HFM.out HNE.out
          have HFN := Lib.hid hFN
          have hoks : ∀ t ∈ xs, TbOk w2 t ∧ t.N = (os.length : Int) ∧ 0 < t.ws.length ∧ t.ws.length ≤ 1024 := fun t ht => by
            obtain ⟨h1, h2⟩ := fm_all HFM.out t ht
            have hne : xs ≠ [] := by rintro rfl; cases ht
            have h3 := form_len (hFN t.ws (mem_uniq.2 (List.mem_map.2 ⟨t, ht, rfl⟩))) (by omega)
            exact ⟨(HOK.out t ht).same HS.out, h2.trans (HNE.out hne), h3.1, h3.2⟩
          have HOS := Lib.hid hoks
          clear hFN hoks
          go_wp2_with (fail)
          refine (sof_any _ n C xs (os.length : Int) w2 (Sl.same H.out HS.out) HOS.out (by omega)).mono ?_
          rintro e w3 ⟨b, D, rfl, hs, hbw, hst⟩
          replace HS := Lib.hid (HS.out.trans hs (fun _ _ h => h))
          have HST := Lib.hid (hst.iff (M' := fun ws => ws ∈ tSet xs) (fun ws => by
            unfold tSet
            rw [mem_uniq, List.mem_map]
            exact ⟨fun ⟨t, h1, h2⟩ => ⟨t, h1, h2.symm⟩, fun ⟨t, h1, h2⟩ => ⟨t, h1, h2.symm⟩⟩))
          obtain ⟨vs, hvs⟩ : ∃ z, z = os.map Int.toNat := ⟨_, rfl⟩
          have HVS := Lib.hid hvs
          rw [← hvs] at HPL
          obtain ⟨L0, hL0⟩ : ∃ z, z = tSet xs := ⟨_, rfl⟩
          have hL0n : L0.length ≤ n := by rw [hL0, HXL.out]; exact tSet_len xs
          have hL0d : L0.Nodup := by rw [hL0]; exact uniq_nodup _
          rw [← hL0] at HST HPL HFN
          have HL0D := Lib.hid hL0d
          clear hs hbw hst hvs hL0 hL0d HOS
          go_wp2
          clear hc4' h16'
          go_loopw [6, 7, 39] (fun l s i wi => ∃ (k : Nat) (A : Option Addr) (D0 b m lo : Nat) (D : DataW Value), k ≤ os.length ∧ i = .int .i64 k ∧ s = .map (some b) ∧ l = .slice A k D0 ∧ OwnI wi 3 A k D0 (proL os.length L0 vs k) ∧ Fresh w.heap.size A ∧ Same w wi ∧ ST lo wi b m D (os.length : Int) (fun ws => ws ∈ setAt os.length L0 (vs.take k)) ∧ m ≤ 2 ^ k * n) (fun _ _ i _ => os.length - (intOf i).toNat)
          case atStart => exact ⟨0, none, 0, b, n, 0, D, by omega, rfl, rfl, rfl, Own.nil _ _ _ _, fresh_none _, HS.out, by simpa [setAt] using HST.out, by simp⟩
          case round =>
            clear HS HST
            obtain ⟨k, A, D0, b, m, lo, D, hk, rfl, rfl, rfl, hown, hfr, hs, hst, hm⟩ := hrel
            have HMM := Lib.hid hm
            clear hm
            by_cases hlt : k < os.length
            · obtain ⟨v, hv, hvn⟩ := IsPerm.at HPM.out hlt
              obtain ⟨bo, oo, hA, hbo, hc⟩ := (Sl.same HO.out hs).at1 hv
              subst hA
              have hvk : vs[k]? = some v := by rw [HVS.out, List.getElem?_map, hv]; rfl
              have hvd : vs.getD k 0 = v := by rw [List.getD_eq_getElem?_getD, hvk]; rfl
              have htk : vs.take (k + 1) = vs.take k ++ [v] := by rw [List.take_add_one, hvk]; rfl
              have hk0 : (0 : Int) ≤ k := by omega
              have hk1 : (k : Int) < os.length := by omega
              have hk16 : k ≤ 16 := by omega
              have hb1 : 65536 * n ≤ 1000000000000000000 := by omega
              have hnn16 : os.length ≤ 16 := by omega
              have hvl : (vs.take k).length = k := by rw [List.length_take, HVS.out, List.length_map]; omega
              have hp2 : 2 ^ k * n ≤ 65536 * n := Nat.mul_le_mul_right n (Nat.pow_le_pow_right (Nat.le_succ 1) hk16)
              have hlen : (setAt os.length L0 (vs.take k)).length ≤ 2 ^ k * n := by
                have h1 := setAt_len os.length (vs.take k) L0
                rw [hvl] at h1
                exact Nat.le_trans h1 (Nat.mul_le_mul_left _ hL0n)
              have HG := Lib.hid (given_any lo b m os.length v D (setAt os.length L0 (vs.take k)) wr hst (setAt_nodup _ HL0D.out) (setAt_form hnn16 _ HFN.out) hvn hnn16 (Nat.le_trans HMM.out (Nat.le_trans hp2 hb1)) (Nat.le_trans hlen (Nat.le_trans hp2 hb1)))
              have hm2 : 2 * (2 ^ k * n) = 2 ^ (k + 1) * n := by rw [Nat.pow_succ, Nat.mul_comm (2 ^ k) 2, Nat.mul_assoc]
              have HM := Lib.hid (show ∀ z, z ≤ 2 * m → z ≤ 2 ^ (k + 1) * n from fun z hz => hm2 ▸ Nat.le_trans hz (Nat.mul_le_mul_left 2 HMM.out))
              have HRW := Lib.hid (show ∀ x, rowOf A x → x < wr.heap.size from fun x ⟨a, ha, hx⟩ => by rw [← hx]; exact hown.block a ha)
              have HOW := Lib.hid hown
              have HFR := Lib.hid hfr
              have HS := Lib.hid hs
              have HVD := Lib.hid hvd
              have HTK := Lib.hid htk
              clear hv hvk hvd htk hp2 hlen hm2 HMM hvl hb1 hown hfr hs hst
              go_wp2_with (fail)
              refine HG.out.mono ?_
              rintro e w4 ⟨b', n', D', rfl, hs, _, hn', hst'⟩
              replace HS := Lib.hid (HS.out.trans hs (fun _ _ h => h))
              replace HOW := Lib.hid (Own.frm HOW.out hs (fun _ _ => id))
              have HST := Lib.hid (hst'.iff (M' := fun ws => ws ∈ setAt os.length L0 (vs.take (k + 1))) (fun ws => by rw [HTK.out, setAt_snoc, stepS_mem]))
              replace HM := Lib.hid (HM.out n' hn')
              obtain ⟨ct, hct⟩ : ∃ z, z = cntL os.length v (setAt os.length L0 (vs.take k)) := ⟨_, rfl⟩
              have HCT := Lib.hid hct
              rw [← hct]
              clear hs hn' hst' hct HG hc hbo
              go_upto_region 13 with fail
              refine wp_region_lit ?_
              refine wpList_read 2 ?_
              simp only [List.take_succ_cons, List.take_zero, List.drop_succ_cons, List.drop_zero]
              repeat (any_goals (first | go_big_quiet_step (fail) | quiet_step (fail)))
              refine wpQuiet_nil ?_
              refine wpList_plain rfl fun K hK => ?_
              go_simp
              refine hK _ _ ?_
              clear hK K
              refine list_world fun wc hwc => ?_
              have hsc : Same w4 wc := by rw [hwc]; exact (Frm.refl _ _).alloc _
              have hNc := Blk.new w4 3 #[.int .i64 (ct : Int)]
              rw [← hwc] at hNc
              clear hwc
              refine wpList_plain rfl fun K hK => ?_
              refine Own.grow (f := icell) (.tmp 49) (.tmp 51) _ rfl Try.underlying23 info_int rfl rfl (Own.frm HOW.out hsc (fun _ _ => id)) icell_len [(ct : Int)] (by simp) ⟨w4.heap.size, 0, none⟩ 1 rfl (fun j u hj => news_of_blk hNc j u hj) (by simp [icell, Value.oneCell']) (by simp [maxLen] <;> omega) (by simp <;> omega) ?_
              intro g C' wd hOd _ hgr hat
              refine hK _ _ ?_
              clear hK K
              have hsd : Same w wd := (HS.out.trans hsc (fun _ _ h => h)).grown hgr (fun b hb => .inr (HFR.out b (ownBlock_row.1 hb)))
              have hgF : Fresh w.heap.size (some ⟨g, 0, none⟩) := by
                rcases hat with ⟨h1, _⟩ | ⟨h1, _⟩
                · rw [← h1]; exact HFR.out
                · have := HS.out.size; have := hsc.size; exact fresh_some (by omega)
              have hst5 : Same w4 wd → True := fun _ => trivial
              have hod : OwnI wd 3 (some ⟨g, 0, none⟩) (k + 1) C' (proL os.length L0 vs (k + 1)) := by
                rw [proL_succ, HVD.out, ← HCT.out]
                exact hOd
              have hst6 := (HST.out.same hsc).grownI (Own.frm HOW.out hsc (fun _ _ => id)) HRW.out hgr
              have HOD := Lib.hid hod
              have HSD := Lib.hid hsd
              have HGF := Lib.hid hgF
              have HT6 := Lib.hid hst6
              clear hgr hOd hat hNc hsc hod hsd hgF hst5 hst6 HOW HS HFR HST
              go_wp2
              go_roundw
              case rel => exact ⟨k + 1, some ⟨g, 0, none⟩, C', b', n', wr.heap.size, D', by omega, by go_num, rfl, rfl, HOD.out, HGF.out, HSD.out, HT6.out, HM.out⟩
              case measure => simp [intOf] <;> omega
            · obtain rfl : k = os.length := by omega
              have HOW := Lib.hid hown
              have HFR := Lib.hid hfr
              have HS := Lib.hid hs
              clear hown hfr hs hst HMM
              go_wp2
              go_ret2
              exact ⟨A, D0, by rw [HPL.out, HPE.out, proL_len]; rfl, by rw [HPL.out, NewL, proL_len]; exact ⟨HOW.out, HFR.out, HS.out⟩⟩
    · obtain ⟨t0, ht0⟩ : ∃ t, xs[0]? = some t := ⟨_, List.getElem?_eq_getElem (by rw [← HXL.out]; omega)⟩
      have hd0 : tN0 xs = t0.N := by unfold tN0; rw [List.getD_eq_getElem?_getD, ht0]; rfl
      obtain ⟨bl, o, hA, hbl, hc⟩ := (Sl.same H.out HS.out).get 0 t0 ht0
      have c0 : w1.cell? ⟨bl, o, none⟩ = some (.int .i64 t0.N) := by simpa [Tb.cells] using hc 0 (by omega)
      subst hA
      have hnp : (0 : Int) < n := by omega
      have HD0 := Lib.hid hd0
      obtain ⟨N0, hN0⟩ : ∃ z, z = t0.N := ⟨_, rfl⟩
      rw [← hN0] at c0 HD0
      clear hc ht0 hd0 hN0
      by_cases hNe : N0 = (os.length : Int)
      · subst hNe
        have HCO := Lib.hid (show chk os ≠ 4 → ¬ ((0 < xs.length ∧ (os.length : Int) ≠ tN0 xs) ∨ chk os = 4) from fun h4 h => by
          rcases h with ⟨_, h⟩ | h
          · exact h HD0.out.symm
          · exact h4 h)
        have HNE := Lib.hid (show xs ≠ [] → tN0 xs = (os.length : Nat) from fun _ => HD0.out)
        go_wp2_with (fail)
        refine (check_any Ao os.length Co os w1 (Sl.same HO.out HS.out) hLo).mono ?_
        rintro e w2 ⟨rfl, hs⟩
        replace HS := Lib.hid (HS.out.trans hs (fun _ _ h => h))
        clear hs
        by_cases hc4 : chk os = 4
        · have HPE := Lib.hid (show prE xs os = 4 by unfold prE; rw [HFM.out, if_pos rfl, if_pos (.inr hc4)])
          have HPL := Lib.hid (show prL xs os = [] by unfold prL; rw [HPE.out]; rfl)
          rw [hc4]
          go_wp2
          go_ret2
          exact ⟨none, 0, by rw [HPL.out, HPE.out]; rfl, by rw [HPL.out]; exact NewL.nil' HS.out⟩
        · have hc4' : (chk os == 4) = false := by simpa using hc4
          have hper : IsPerm os := by
            by_cases hp : IsPerm os
            · exact hp
            · exact absurd (by unfold chk; rw [if_neg hp]) hc4
          have HPM := Lib.hid hper
          have hcond := HCO.out hc4
          have HCOND := Lib.hid hcond
          obtain ⟨ck, hck⟩ : ∃ z, z = chk os := ⟨_, rfl⟩
          rw [← hck] at hc4' ⊢
          clear hc4 hper hck hcond
          by_cases h16 : 16 < os.length
          · have HPE := Lib.hid (show prE xs os = 6 by unfold prE; rw [HFM.out, if_pos rfl, if_neg HCOND.out, if_pos h16])
            have HPL := Lib.hid (show prL xs os = [] by unfold prL; rw [HPE.out]; rfl)
            have h16' : (16 : Int) < os.length := by omega
            go_wp2
            go_ret2
            exact ⟨none, 0, by rw [HPL.out, HPE.out]; rfl, by rw [HPL.out]; exact NewL.nil' HS.out⟩
          · have HPE := Lib.hid (show prE xs os = 0 by unfold prE; rw [HFM.out, if_pos rfl, if_neg HCOND.out, if_neg h16])
            have HPL := Lib.hid (show prL xs os = proL os.length (tSet xs) (os.map Int.toNat) os.length by unfold prL; rw [HPE.out, if_pos rfl])
            have h16' : ¬ (16 : Int) < os.length := by omega
            have hFN : ∀ ws ∈ tSet xs, FormN os.length ws := tSet_form HFM.out HNE.out
            have HFN := Lib.hid hFN
            have hoks : ∀ t ∈ xs, TbOk w2 t ∧ t.N = (os.length : Int) ∧ 0 < t.ws.length ∧ t.ws.length ≤ 1024 := fun t ht => by
              obtain ⟨h1, h2⟩ := fm_all HFM.out t ht
              have hne : xs ≠ [] := by rintro rfl; cases ht
              have h3 := form_len (hFN t.ws (mem_uniq.2 (List.mem_map.2 ⟨t, ht, rfl⟩))) (by omega)
              exact ⟨(HOK.out t ht).same HS.out, h2.trans (HNE.out hne), h3.1, h3.2⟩
            have HOS := Lib.hid hoks
            clear hFN hoks
            go_wp2_with (fail)
            refine (sof_any _ n C xs (os.length : Int) w2 (Sl.same H.out HS.out) HOS.out (by omega)).mono ?_
            rintro e w3 ⟨b, D, rfl, hs, hbw, hst⟩
            replace HS := Lib.hid (HS.out.trans hs (fun _ _ h => h))
            have HST := Lib.hid (hst.iff (M' := fun ws => ws ∈ tSet xs) (fun ws => by
              unfold tSet
              rw [mem_uniq, List.mem_map]
              exact ⟨fun ⟨t, h1, h2⟩ => ⟨t, h1, h2.symm⟩, fun ⟨t, h1, h2⟩ => ⟨t, h1, h2.symm⟩⟩))
            obtain ⟨vs, hvs⟩ : ∃ z, z = os.map Int.toNat := ⟨_, rfl⟩
            have HVS := Lib.hid hvs
            rw [← hvs] at HPL
            obtain ⟨L0, hL0⟩ : ∃ z, z = tSet xs := ⟨_, rfl⟩
            have hL0n : L0.length ≤ n := by rw [hL0, HXL.out]; exact tSet_len xs
            have hL0d : L0.Nodup := by rw [hL0]; exact uniq_nodup _
            rw [← hL0] at HST HPL HFN
            have HL0D := Lib.hid hL0d
            clear hs hbw hst hvs hL0 hL0d HOS
            go_wp2
            clear hc4' h16'
            go_loopw [6, 7, 39] (fun l s i wi => ∃ (k : Nat) (A : Option Addr) (D0 b m lo : Nat) (D : DataW Value), k ≤ os.length ∧ i = .int .i64 k ∧ s = .map (some b) ∧ l = .slice A k D0 ∧ OwnI wi 3 A k D0 (proL os.length L0 vs k) ∧ Fresh w.heap.size A ∧ Same w wi ∧ ST lo wi b m D (os.length : Int) (fun ws => ws ∈ setAt os.length L0 (vs.take k)) ∧ m ≤ 2 ^ k * n) (fun _ _ i _ => os.length - (intOf i).toNat)
            case atStart => exact ⟨0, none, 0, b, n, 0, D, by omega, rfl, rfl, rfl, Own.nil _ _ _ _, fresh_none _, HS.out, by simpa [setAt] using HST.out, by simp⟩
            case round =>
              clear HS HST
              obtain ⟨k, A, D0, b, m, lo, D, hk, rfl, rfl, rfl, hown, hfr, hs, hst, hm⟩ := hrel
              have HMM := Lib.hid hm
              clear hm
              by_cases hlt : k < os.length
              · obtain ⟨v, hv, hvn⟩ := IsPerm.at HPM.out hlt
                obtain ⟨bo, oo, hA, hbo, hc⟩ := (Sl.same HO.out hs).at1 hv
                subst hA
                have hvk : vs[k]? = some v := by rw [HVS.out, List.getElem?_map, hv]; rfl
                have hvd : vs.getD k 0 = v := by rw [List.getD_eq_getElem?_getD, hvk]; rfl
                have htk : vs.take (k + 1) = vs.take k ++ [v] := by rw [List.take_add_one, hvk]; rfl
                have hk0 : (0 : Int) ≤ k := by omega
                have hk1 : (k : Int) < os.length := by omega
                have hk16 : k ≤ 16 := by omega
                have hb1 : 65536 * n ≤ 1000000000000000000 := by omega
                have hnn16 : os.length ≤ 16 := by omega
                have hvl : (vs.take k).length = k := by rw [List.length_take, HVS.out, List.length_map]; omega
                have hp2 : 2 ^ k * n ≤ 65536 * n := Nat.mul_le_mul_right n (Nat.pow_le_pow_right (Nat.le_succ 1) hk16)
                have hlen : (setAt os.length L0 (vs.take k)).length ≤ 2 ^ k * n := by
                  have h1 := setAt_len os.length (vs.take k) L0
                  rw [hvl] at h1
                  exact Nat.le_trans h1 (Nat.mul_le_mul_left _ hL0n)
                have HG := Lib.hid (given_any lo b m os.length v D (setAt os.length L0 (vs.take k)) wr hst (setAt_nodup _ HL0D.out) (setAt_form hnn16 _ HFN.out) hvn hnn16 (Nat.le_trans HMM.out (Nat.le_trans hp2 hb1)) (Nat.le_trans hlen (Nat.le_trans hp2 hb1)))
                have hm2 : 2 * (2 ^ k * n) = 2 ^ (k + 1) * n := by rw [Nat.pow_succ, Nat.mul_comm (2 ^ k) 2, Nat.mul_assoc]
                have HM := Lib.hid (show ∀ z, z ≤ 2 * m → z ≤ 2 ^ (k + 1) * n from fun z hz => hm2 ▸ Nat.le_trans hz (Nat.mul_le_mul_left 2 HMM.out))
                have HRW := Lib.hid (show ∀ x, rowOf A x → x < wr.heap.size from fun x ⟨a, ha, hx⟩ => by rw [← hx]; exact hown.block a ha)
                have HOW := Lib.hid hown
                have HFR := Lib.hid hfr
                have HS := Lib.hid hs
                have HVD := Lib.hid hvd
                have HTK := Lib.hid htk
                clear hv hvk hvd htk hp2 hlen hm2 HMM hvl hb1 hown hfr hs hst
                go_wp2_with (fail)
                refine HG.out.mono ?_
                rintro e w4 ⟨b', n', D', rfl, hs, _, hn', hst'⟩
                replace HS := Lib.hid (HS.out.trans hs (fun _ _ h => h))
                replace HOW := Lib.hid (Own.frm HOW.out hs (fun _ _ => id))
                have HST := Lib.hid (hst'.iff (M' := fun ws => ws ∈ setAt os.length L0 (vs.take (k + 1))) (fun ws => by rw [HTK.out, setAt_snoc, stepS_mem]))
                replace HM := Lib.hid (HM.out n' hn')
                obtain ⟨ct, hct⟩ : ∃ z, z = cntL os.length v (setAt os.length L0 (vs.take k)) := ⟨_, rfl⟩
                have HCT := Lib.hid hct
                rw [← hct]
                clear hs hn' hst' hct HG hc hbo
                go_upto_region 13 with fail
                refine wp_region_lit ?_
                refine wpList_read 2 ?_
                simp only [List.take_succ_cons, List.take_zero, List.drop_succ_cons, List.drop_zero]
                repeat (any_goals (first | go_big_quiet_step (fail) | quiet_step (fail)))
                refine wpQuiet_nil ?_
                refine wpList_plain rfl fun K hK => ?_
                go_simp
                refine hK _ _ ?_
                clear hK K
                refine list_world fun wc hwc => ?_
                have hsc : Same w4 wc := by rw [hwc]; exact (Frm.refl _ _).alloc _
                have hNc := Blk.new w4 3 #[.int .i64 (ct : Int)]
                rw [← hwc] at hNc
                clear hwc
                refine wpList_plain rfl fun K hK => ?_
                refine Own.grow (f := icell) (.tmp 49) (.tmp 51) _ rfl Try.underlying23 info_int rfl rfl (Own.frm HOW.out hsc (fun _ _ => id)) icell_len [(ct : Int)] (by simp) ⟨w4.heap.size, 0, none⟩ 1 rfl (fun j u hj => news_of_blk hNc j u hj) (by simp [icell, Value.oneCell']) (by simp [maxLen] <;> omega) (by simp <;> omega) ?_
                intro g C' wd hOd _ hgr hat
                refine hK _ _ ?_
                clear hK K
                have hsd : Same w wd := (HS.out.trans hsc (fun _ _ h => h)).grown hgr (fun b hb => .inr (HFR.out b (ownBlock_row.1 hb)))
                have hgF : Fresh w.heap.size (some ⟨g, 0, none⟩) := by
                  rcases hat with ⟨h1, _⟩ | ⟨h1, _⟩
                  · rw [← h1]; exact HFR.out
                  · have := HS.out.size; have := hsc.size; exact fresh_some (by omega)
                have hst5 : Same w4 wd → True := fun _ => trivial
                have hod : OwnI wd 3 (some ⟨g, 0, none⟩) (k + 1) C' (proL os.length L0 vs (k + 1)) := by
                  rw [proL_succ, HVD.out, ← HCT.out]
                  exact hOd
                have hst6 := (HST.out.same hsc).grownI (Own.frm HOW.out hsc (fun _ _ => id)) HRW.out hgr
                have HOD := Lib.hid hod
                have HSD := Lib.hid hsd
                have HGF := Lib.hid hgF
                have HT6 := Lib.hid hst6
                clear hgr hOd hat hNc hsc hod hsd hgF hst5 hst6 HOW HS HFR HST
                go_wp2
                go_roundw
                case rel => exact ⟨k + 1, some ⟨g, 0, none⟩, C', b', n', wr.heap.size, D', by omega, by go_num, rfl, rfl, HOD.out, HGF.out, HSD.out, HT6.out, HM.out⟩
                case measure => simp [intOf] <;> omega
              · obtain rfl : k = os.length := by omega
                have HOW := Lib.hid hown
                have HFR := Lib.hid hfr
                have HS := Lib.hid hs
                clear hown hfr hs hst HMM
                go_wp2
                go_ret2
                exact ⟨A, D0, by rw [HPL.out, HPE.out, proL_len]; rfl, by rw [HPL.out, NewL, proL_len]; exact ⟨HOW.out, HFR.out, HS.out⟩⟩
      · have hNe' : ((os.length : Int) != N0) = true := by simpa using fun h => hNe h.symm
        have HPE := Lib.hid (show prE xs os = 4 by
          unfold prE
          rw [HFM.out, if_pos rfl, if_pos (.inl ⟨by rw [← HXL.out]; omega, by rw [HD0.out]; exact fun h => hNe h.symm⟩)])
        have HPL := Lib.hid (show prL xs os = [] by unfold prL; rw [HPE.out]; rfl)
        clear hNe
        go_wp2
        go_ret2
        exact ⟨none, 0, by rw [HPL.out, HPE.out]; rfl, by rw [HPL.out]; exact NewL.nil' HS.out⟩
end Go.Proofs.Ytakepdkokjecoaa


/- Shape: Size, Level. -/
namespace Go.Proofs.Ytakepdkokjecoaa
open Go.RowKit Go.Tk Go.Maps

theorem cnt_le (nn v : Nat) (L : List (List Nat)) : cntL nn v L ≤ L.length := List.length_filter_le _ _
theorem sum_snoc {ys : List Int} {k : Nat} {x : Int} (h : ys[k]? = some x) : (ys.take (k + 1)).sum = (ys.take k).sum + x := by
  rw [List.take_add_one, h, List.sum_append]
  simp
theorem proL_sum (nn : Nat) (L : List (List Nat)) (vs : List Nat) (n : Nat) (hL : L.length ≤ n) : ∀ k, 0 ≤ (proL nn L vs k).sum ∧ (proL nn L vs k).sum ≤ ((2 ^ k * n : Nat) : Int)
  | 0 => by simp [proL]
  | k + 1 => by
    obtain ⟨h1, h2⟩ := proL_sum nn L vs n hL k
    have h3 := setAt_len nn (vs.take k) L
    have h4 := cnt_le nn (vs.getD k 0) (setAt nn L (vs.take k))
    have h5 : 2 ^ (vs.take k).length * L.length ≤ 2 ^ k * n := Nat.mul_le_mul (Nat.pow_le_pow_right (Nat.le_succ 1) (by rw [List.length_take]; omega)) hL
    have h6 : 2 ^ (k + 1) * n = 2 ^ k * n + 2 ^ k * n := by rw [Nat.pow_succ, Nat.mul_assoc, Nat.mul_left_comm, Nat.two_mul]
    rw [proL_succ, List.sum_append, h6]
    simp only [List.sum_cons, List.sum_nil]
    generalize cntL nn (vs.getD k 0) (setAt nn L (vs.take k)) = c at *
    generalize 2 ^ k * n = z at *
    omega
theorem proL_take (nn : Nat) (L : List (List Nat)) (vs : List Nat) {j k : Nat} (h : j ≤ k) : (proL nn L vs k).take j = proL nn L vs j := by
  unfold proL
  rw [← List.map_take, List.take_range, Nat.min_eq_left h]
theorem prL_bound {xs : List Tb} {os : List Int} {n : Nat} (hn : xs.length = n) (hb : n ≤ 8796093022210) (k : Nat) (hk : k ≤ (prL xs os).length) : 0 ≤ ((prL xs os).take k).sum ∧ ((prL xs os).take k).sum ≤ 1000000000000000000 := by
  unfold prL at hk ⊢
  by_cases he : prE xs os = 0
  · rw [if_pos he] at hk ⊢
    rw [proL_len] at hk
    have h16 : os.length ≤ 16 := by
      by_cases h : 16 < os.length
      · exfalso
        unfold prE at he
        split at he
        · split at he
          · cases he
          · first | (cases he; done) | (rw [if_pos h] at he; cases he)
        · cases he
      · omega
    rw [proL_take _ _ _ hk]
    obtain ⟨h1, h2⟩ := proL_sum os.length (tSet xs) (os.map Int.toNat) n (by rw [← hn]; exact tSet_len xs) k
    have h3 : 2 ^ k * n ≤ 65536 * n := Nat.mul_le_mul_right n (Nat.pow_le_pow_right (Nat.le_succ 1) (by omega : k ≤ 16))
    generalize 2 ^ k * n = z at *
    omega
  · rw [if_neg he]
    simp
theorem prL_len (xs : List Tb) (os : List Int) : (prL xs os).length ≤ os.length := by
  unfold prL
  split
  · rw [proL_len]; exact Nat.le_refl _
  · simp
set_option maxRecDepth 100000 in
set_option maxHeartbeats 8000000 in
theorem size_any (AL : Option Addr) (n C : Nat) (xs : List Tb) (Ao : Option Addr) (Lo Co : Nat) (os : List Int) (w : World) (h : Sl w 2 Tb.cells AL n xs) (hok : ∀ t ∈ xs, TbOk w t) (hn : n ≤ 8796093022210) (ho : IL w Ao Lo os) (hLo : Lo * 8 ≤ 140737488351232) :
    Calls Try.prog 12 #[.slice AL n C, .slice Ao Lo Co] w fun e w' => e = .returned (.tuple #[.int .i64 (prL xs os).sum, .int .i64 (prE xs os)]) ∧ Same w w' := by
  have HP := Lib.hid (profile_any AL n C xs Ao Lo Co os w h hok hn ho hLo)
  have HB := Lib.hid (fun k hk => prL_bound (xs := xs) (os := os) (n := n) h.len.symm hn k hk)
  have hyl : (prL xs os).length ≤ Lo := by rw [ho.len]; exact prL_len xs os
  clear h hok ho
  obtain ⟨ys, hys⟩ : ∃ z, z = prL xs os := ⟨_, rfl⟩
  obtain ⟨er, her⟩ : ∃ z, z = prE xs os := ⟨_, rfl⟩
  rw [← hys, ← her] at HP ⊢
  rw [← hys] at HB hyl
  clear hys her
  go_enter Try.func12, Try.ntmps12
  go_wp2_with (fail)
  refine HP.out.mono ?_
  rintro e w1 ⟨A, D, rfl, hNT⟩
  have HO := Lib.hid (Own.il hNT.1)
  have HS := Lib.hid hNT.2.2
  clear hNT
  go_wp2
  go_loopw [8, 19] (fun s i wi => ∃ k : Nat, k ≤ ys.length ∧ i = .int .i64 k ∧ s = .int .i64 (ys.take k).sum ∧ wi = w1) (fun _ i _ => ys.length - (intOf i).toNat)
  case atStart => exact ⟨0, by omega, rfl, by simp, rfl⟩
  case round =>
    obtain ⟨k, hk, rfl, rfl, hwz⟩ := hrel
    subst hwz
    by_cases hlt : k < ys.length
    · obtain ⟨x, hx⟩ : ∃ x, ys[k]? = some x := ⟨_, List.getElem?_eq_getElem hlt⟩
      obtain ⟨b, o, hA, hb, hc⟩ := HO.out.at1 hx
      subst hA
      have h1 := HB.out k hk
      have h2 := HB.out (k + 1) hlt
      have h3 := sum_snoc hx
      have hwr : IntKind.i64.wrap ((ys.take k).sum + x) = (ys.take (k + 1)).sum := by rw [← h3]; exact IntWalk.i64_in _ (by omega)
      have hk0 : (0 : Int) ≤ k := by omega
      have hk1 : (k : Int) < ys.length := by omega
      clear h1 h2 h3 hx
      go_wp2
      go_roundw
      case rel => exact ⟨k + 1, by omega, by go_num, rfl, by trivial⟩
      case measure => simp [intOf] <;> omega
    · obtain rfl : k = ys.length := by omega
      rw [List.take_of_length_le (Nat.le_refl _)]
      go_wp2
      go_ret2
      exact ⟨rfl, HS.out⟩
end Go.Proofs.Ytakepdkokjecoaa


/- Shape: Level. -/
namespace Go.Proofs.Ytakepdkokjecoaa
open Go.RowKit Go.Tk Go.Maps

def lvN (xs : List Tb) : Nat := if xs.length = 0 then 16 else (tN0 xs).toNat
def lvE (xs : List Tb) (ab : Nat) (v : Int) : Int := if fm xs then (if v < 0 ∨ (lvN xs : Int) ≤ v ∨ ab / 2 ^ lvN xs ≠ 0 then 2 else if ab.testBit v.toNat then 4 else 0) else 5
def bitsL (nn ab : Nat) : List Nat := (List.range nn).filter (fun u => ab.testBit u)
def lvC (xs : List Tb) (ab : Nat) (v : Int) : Nat := if lvE xs ab v = 0 then cntL (lvN xs) v.toNat (setAt (lvN xs) (tSet xs) (bitsL (lvN xs) ab)) else 0
theorem bitsL_succ (k ab : Nat) : bitsL (k + 1) ab = bitsL k ab ++ (if ab.testBit k then [k] else []) := by
  unfold bitsL
  rw [List.range_succ, List.filter_append]
  congr 1
  cases h : ab.testBit k <;> simp [h]
theorem sbit_int {ab : Nat} (hab : ab < 18446744073709551616) (k : Nat) : (bits .and .u64 ((ab : Int) / 2 ^ k) 1 == 1) = ab.testBit k := by
  have h1 : (ab : Int) / 2 ^ k = ((ab / 2 ^ k : Nat) : Int) := by
    rw [Int.natCast_ediv, Int.natCast_pow]
    rfl
  have h2 := u64_and_nat (ab / 2 ^ k) 1 (Nat.lt_of_le_of_lt (Nat.div_le_self _ _) hab) (by decide)
  rw [h1, show (1 : Int) = ((1 : Nat) : Int) from rfl, h2, Nat.and_one_is_mod, Nat.testBit_eq_decide_div_mod_eq]
  by_cases hb : ab / 2 ^ k % 2 = 1
  · rw [hb]; rfl
  · rw [decide_eq_false hb, beq_eq_false_iff_ne]
    omega
theorem bits_len (k ab : Nat) : (bitsL k ab).length ≤ k := by
  unfold bitsL
  have := List.length_filter_le (fun u => ab.testBit u) (List.range k)
  simpa using this
set_option maxRecDepth 100000 in
set_option maxHeartbeats 16000000 in
theorem level_any (AL : Option Addr) (n C : Nat) (xs : List Tb) (ab : Nat) (v : Int) (w : World) (h : Sl w 2 Tb.cells AL n xs) (hok : ∀ t ∈ xs, TbOk w t) (hn : n ≤ 8796093022210) (hab : ab < 18446744073709551616) :
    Calls Try.prog 13 #[.slice AL n C, .int .u64 ab, .int .i64 v] w fun e w' => e = .returned (.tuple #[.int .i64 (lvC xs ab v : Nat), .int .i64 (lvE xs ab v)]) ∧ Same w w' := by
  have H := Lib.hid h
  have HOK := Lib.hid hok
  have HXL := Lib.hid h.len
  clear h hok
  obtain ⟨r, hr⟩ : ∃ r, fm xs = r := ⟨_, rfl⟩
  go_enter Try.func13, Try.ntmps13
  go_wp2_with (fail)
  refine (scheck_any AL n C xs w H.out (by omega) HOK.out).mono ?_
  rintro e w1 ⟨rfl, hs⟩
  rw [hr]
  have HS := Lib.hid hs
  clear hs
  cases r with
  | false =>
    have HE := Lib.hid (show lvE xs ab v = 5 by unfold lvE; rw [hr]; rfl)
    have HC := Lib.hid (show lvC xs ab v = 0 by unfold lvC; rw [HE.out]; rfl)
    clear hr
    go_wp2
    go_ret2
    exact ⟨by rw [HE.out, HC.out]; rfl, HS.out⟩
  | true =>
    have HFM := Lib.hid hr
    clear hr
    by_cases hn0 : n = 0
    · have hnp : ¬ (0 : Int) < n := by omega
      have HN0 := Lib.hid hn0
      clear hn0
      have hx0 : xs.length = 0 := by rw [← HXL.out]; exact HN0.out
      obtain ⟨nn, hnn⟩ : ∃ z : Nat, z = 16 := ⟨_, rfl⟩
      have HNN := Lib.hid (show lvN xs = nn by unfold lvN; rw [if_pos hx0, hnn])
      have hn16 : nn ≤ 16 := by omega
      have HND := Lib.hid (show xs ≠ [] → tN0 xs = (nn : Int) from fun h => absurd (List.eq_nil_of_length_eq_zero hx0) h)
      go_upto_region 6 with fail
      rw [show (Value.int IntKind.i64 16) = Value.int IntKind.i64 (nn : Int) by rw [hnn]; rfl]
      clear hnn hx0 hnp
      by_cases hv0 : v < 0
      · have HE := Lib.hid (show lvE xs ab v = 2 by unfold lvE; rw [HFM.out, if_pos rfl, if_pos (.inl hv0)])
        have HC := Lib.hid (show lvC xs ab v = 0 by unfold lvC; rw [HE.out]; rfl)
        go_wp2
        go_ret2
        exact ⟨by rw [HE.out, HC.out]; rfl, HS.out⟩
      · have hv0' : ¬ v < 0 := hv0
        obtain ⟨vn, rfl⟩ := Int.eq_ofNat_of_zero_le (show 0 ≤ v by omega)
        clear hv0 hv0'
        by_cases hvn : nn ≤ vn
        · have hvn' : (nn : Int) ≤ vn := by omega
          have HE := Lib.hid (show lvE xs ab (vn : Int) = 2 by unfold lvE; rw [HFM.out, if_pos rfl, if_pos (.inr (.inl (by rw [HNN.out]; exact hvn')))])
          have HC := Lib.hid (show lvC xs ab (vn : Int) = 0 by unfold lvC; rw [HE.out]; rfl)
          go_wp2
          go_ret2
          exact ⟨by rw [HE.out, HC.out]; rfl, HS.out⟩
        · have hvn' : (vn : Int) < nn := by omega
          have hvn0 : (0 : Int) ≤ vn := by omega
          have hnn0 : (0 : Int) ≤ nn := by omega
          by_cases hab0 : ab / 2 ^ nn = 0
          · have habi : (ab : Int) / 2 ^ nn = 0 := by
              have h1 : (ab : Int) / 2 ^ nn = ((ab / 2 ^ nn : Nat) : Int) := by
                rw [Int.natCast_ediv, Int.natCast_pow]
                rfl
              rw [h1, hab0]
              rfl
            have HABI := Lib.hid habi
            have HAB0 := Lib.hid hab0
            clear hab0
            go_upto_region 8 with fail
            have HV := Lib.hid hvn'
            by_cases hbt : ab.testBit vn = true
            · have hbi : (bits .and .u64 ((ab : Int) / 2 ^ vn) 1 == 1) = true := by rw [sbit_int hab]; exact hbt
              have HE := Lib.hid (show lvE xs ab (vn : Int) = 4 by unfold lvE; rw [HFM.out, if_pos rfl, HNN.out, if_neg (by rintro (h | h | h); omega; omega; exact h HAB0.out), Int.toNat_natCast, if_pos hbt])
              have HC := Lib.hid (show lvC xs ab (vn : Int) = 0 by unfold lvC; rw [HE.out]; rfl)
              clear hbt
              go_wp2
              go_ret2
              exact ⟨by rw [HE.out, HC.out]; rfl, HS.out⟩
            · have hbi : (bits .and .u64 ((ab : Int) / 2 ^ vn) 1 == 1) = false := by rw [sbit_int hab]; simpa using hbt
              have HE := Lib.hid (show lvE xs ab (vn : Int) = 0 by unfold lvE; rw [HFM.out, if_pos rfl, HNN.out, if_neg (by rintro (h | h | h); omega; omega; exact h HAB0.out), Int.toNat_natCast, if_neg hbt])
              have HC := Lib.hid (show lvC xs ab (vn : Int) = cntL nn vn (setAt nn (tSet xs) (bitsL nn ab)) by unfold lvC; rw [HE.out, if_pos rfl, HNN.out, Int.toNat_natCast])
              clear hbt
              have hFN : ∀ ws ∈ tSet xs, FormN nn ws := tSet_form HFM.out HND.out
              have HFN := Lib.hid hFN
              have hoks : ∀ t ∈ xs, TbOk w1 t ∧ t.N = (nn : Int) ∧ 0 < t.ws.length ∧ t.ws.length ≤ 1024 := fun t ht => by
                obtain ⟨h1, h2⟩ := fm_all HFM.out t ht
                have hne : xs ≠ [] := by rintro rfl; cases ht
                have h3 := form_len (hFN t.ws (mem_uniq.2 (List.mem_map.2 ⟨t, ht, rfl⟩))) hn16
                exact ⟨(HOK.out t ht).same HS.out, h2.trans (HND.out hne), h3.1, h3.2⟩
              have HOS := Lib.hid hoks
              clear hFN hoks
              go_wp2_with (fail)
              refine (sof_any _ n C xs (nn : Int) w1 (Sl.same H.out HS.out) HOS.out (by omega)).mono ?_
              rintro e w3 ⟨b, D, rfl, hs, hbw, hst⟩
              replace HS := Lib.hid (HS.out.trans hs (fun _ _ h => h))
              have HST := Lib.hid (hst.iff (M' := fun ws => ws ∈ tSet xs) (fun ws => by
                unfold tSet
                rw [mem_uniq, List.mem_map]
                exact ⟨fun ⟨t, h1, h2⟩ => ⟨t, h1, h2.symm⟩, fun ⟨t, h1, h2⟩ => ⟨t, h1, h2.symm⟩⟩))
              obtain ⟨L0, hL0⟩ : ∃ z, z = tSet xs := ⟨_, rfl⟩
              have hL0n : L0.length ≤ n := by rw [hL0, HXL.out]; exact tSet_len xs
              have hL0d : L0.Nodup := by rw [hL0]; exact uniq_nodup _
              rw [← hL0] at HST HC HFN
              have HL0D := Lib.hid hL0d
              have HL0N := Lib.hid hL0n
              clear hs hbw hst hL0 hL0d hL0n HOS hbi HABI
              go_wp2
              go_loopw [9, 44] (fun s i wi => ∃ (k b m lo : Nat) (D : DataW Value), k ≤ nn ∧ i = .int .i64 k ∧ s = .map (some b) ∧ Same w wi ∧ ST lo wi b m D (nn : Int) (fun ws => ws ∈ setAt nn L0 (bitsL k ab)) ∧ m ≤ 2 ^ k * n) (fun _ i _ => nn - (intOf i).toNat)
              case atStart => exact ⟨0, b, n, 0, D, by omega, rfl, rfl, HS.out, by simpa [setAt, bitsL] using HST.out, by simp⟩
              case round =>
                clear HS HST
                obtain ⟨k, b, m, lo, D, hk, rfl, rfl, hs, hst, hm⟩ := hrel
                have HMM := Lib.hid hm
                have HST := Lib.hid hst
                have HS := Lib.hid hs
                clear hm hst hs
                have hb1 : 65536 * n ≤ 1000000000000000000 := by omega
                have hk16 : k ≤ 16 := by omega
                have HHN := Lib.hid (show 2 ^ k * n ≤ 1000000000000000000 from Nat.le_trans (Nat.mul_le_mul_right n (Nat.pow_le_pow_right (Nat.le_succ 1) hk16)) hb1)
                have HHL := Lib.hid (show (setAt nn L0 (bitsL k ab)).length ≤ 1000000000000000000 from Nat.le_trans (setAt_len nn (bitsL k ab) L0) (Nat.le_trans (Nat.mul_le_mul (Nat.pow_le_pow_right (Nat.le_succ 1) (bits_len k ab)) HL0N.out) HHN.out))
                clear hb1
                by_cases hlt : k < nn
                · have hk0 : (0 : Int) ≤ k := by omega
                  have hk1 : (k : Int) < nn := by omega
                  by_cases hbk : ab.testBit k = true
                  · have hbi : (bits .and .u64 ((ab : Int) / 2 ^ k) 1 == 1) = true := by rw [sbit_int hab]; exact hbk
                    have HBS := Lib.hid (show bitsL (k + 1) ab = bitsL k ab ++ [k] by rw [bitsL_succ, if_pos hbk])
                    have HG := Lib.hid (given_any lo b m nn k D (setAt nn L0 (bitsL k ab)) wr HST.out (setAt_nodup _ HL0D.out) (setAt_form hn16 _ HFN.out) hlt hn16 (Nat.le_trans HMM.out HHN.out) HHL.out)
                    clear hbk
                    go_wp2_with (fail)
                    refine HG.out.mono ?_
                    rintro e w4 ⟨b', n', D', rfl, hs, _, hn', hst'⟩
                    have HS4 := Lib.hid (HS.out.trans hs (fun _ _ h => h))
                    have HST4 := Lib.hid (hst'.iff (M' := fun ws => ws ∈ setAt nn L0 (bitsL (k + 1) ab)) (fun ws => by rw [HBS.out, setAt_snoc, stepS_mem]))
                    have hm2 : 2 * (2 ^ k * n) = 2 ^ (k + 1) * n := by rw [Nat.pow_succ, Nat.mul_comm (2 ^ k) 2, Nat.mul_assoc]
                    have HM := Lib.hid (show n' ≤ 2 ^ (k + 1) * n from hm2 ▸ Nat.le_trans hn' (Nat.mul_le_mul_left 2 HMM.out))
                    clear hs hn' hst' hm2 HG hbi
                    go_wp2
                    go_roundw
                    case rel => exact ⟨k + 1, b', n', wr.heap.size, D', by omega, by go_num, rfl, HS4.out, HST4.out, HM.out⟩
                    case measure => simp [intOf] <;> omega
                  · have hbi : (bits .and .u64 ((ab : Int) / 2 ^ k) 1 == 1) = false := by rw [sbit_int hab]; simpa using hbk
                    have HBS := Lib.hid (show bitsL (k + 1) ab = bitsL k ab by rw [bitsL_succ, if_neg hbk, List.append_nil])
                    have HM := Lib.hid (show m ≤ 2 ^ (k + 1) * n from Nat.le_trans HMM.out (Nat.mul_le_mul_right n (Nat.pow_le_pow_right (Nat.le_succ 1) (Nat.le_succ k))))
                    clear hbk
                    go_wp2
                    go_roundw
                    case rel => exact ⟨k + 1, b, m, lo, D, by omega, by go_num, rfl, HS.out, by rw [HBS.out]; exact HST.out, HM.out⟩
                    case measure => simp [intOf] <;> omega
                · obtain rfl : k = nn := by omega
                  have HG := Lib.hid (given_any lo b m k vn D (setAt k L0 (bitsL k ab)) wr HST.out (setAt_nodup _ HL0D.out) (setAt_form hn16 _ HFN.out) (by omega) hn16 (Nat.le_trans HMM.out HHN.out) HHL.out)
                  go_wp2_with (fail)
                  refine HG.out.mono ?_
                  rintro e w4 ⟨b', n', D', rfl, hs, _, _, _⟩
                  have HS4 := Lib.hid (HS.out.trans hs (fun _ _ h => h))
                  clear hs HG
                  go_wp2
                  go_ret2
                  exact ⟨by rw [HE.out, HC.out]; rfl, HS4.out⟩
          · have habi : ((ab : Int) / 2 ^ nn != 0) = true := by
              have h1 : (ab : Int) / 2 ^ nn = ((ab / 2 ^ nn : Nat) : Int) := by
                rw [Int.natCast_ediv, Int.natCast_pow]
                rfl
              rw [h1]
              simp only [bne_iff_ne, ne_eq]
              omega
            have HE := Lib.hid (show lvE xs ab (vn : Int) = 2 by unfold lvE; rw [HFM.out, if_pos rfl, if_pos (.inr (.inr (by rw [HNN.out]; exact hab0)))])
            have HC := Lib.hid (show lvC xs ab (vn : Int) = 0 by unfold lvC; rw [HE.out]; rfl)
            go_wp2
            go_ret2
            exact ⟨by rw [HE.out, HC.out]; rfl, HS.out⟩
    · obtain ⟨t0, ht0⟩ : ∃ t, xs[0]? = some t := ⟨_, List.getElem?_eq_getElem (by rw [← HXL.out]; omega)⟩
      have hd0 : tN0 xs = t0.N := by unfold tN0; rw [List.getD_eq_getElem?_getD, ht0]; rfl
      obtain ⟨bl, o, hA, hbl, hc⟩ := (Sl.same H.out HS.out).get 0 t0 ht0
      have c0 : w1.cell? ⟨bl, o, none⟩ = some (.int .i64 t0.N) := by simpa [Tb.cells] using hc 0 (by omega)
      subst hA
      have hnp : (0 : Int) < n := by omega
      have hxn : xs.length ≠ 0 := by rw [← HXL.out]; exact hn0
      have hfr := (fm_all HFM.out t0 (List.mem_of_getElem? ht0)).1
      obtain ⟨nn, hnn, hfn⟩ := frm_true hfr
      have hn16 : nn ≤ 16 := hfn.n16
      have HNN := Lib.hid (show lvN xs = nn by unfold lvN; rw [if_neg hxn, hd0, hnn]; rfl)
      have HND := Lib.hid (show xs ≠ [] → tN0 xs = (nn : Int) from fun _ => hd0.trans hnn)
      rw [hnn] at c0
      clear hc ht0 hd0 hnn hfr hfn hxn hn0
      go_upto_region 6 with fail
      clear c0 hbl hnp
      by_cases hv0 : v < 0
      · have HE := Lib.hid (show lvE xs ab v = 2 by unfold lvE; rw [HFM.out, if_pos rfl, if_pos (.inl hv0)])
        have HC := Lib.hid (show lvC xs ab v = 0 by unfold lvC; rw [HE.out]; rfl)
        go_wp2
        go_ret2
        exact ⟨by rw [HE.out, HC.out]; rfl, HS.out⟩
      · have hv0' : ¬ v < 0 := hv0
        obtain ⟨vn, rfl⟩ := Int.eq_ofNat_of_zero_le (show 0 ≤ v by omega)
        clear hv0 hv0'
        by_cases hvn : nn ≤ vn
        · have hvn' : (nn : Int) ≤ vn := by omega
          have HE := Lib.hid (show lvE xs ab (vn : Int) = 2 by unfold lvE; rw [HFM.out, if_pos rfl, if_pos (.inr (.inl (by rw [HNN.out]; exact hvn')))])
          have HC := Lib.hid (show lvC xs ab (vn : Int) = 0 by unfold lvC; rw [HE.out]; rfl)
          go_wp2
          go_ret2
          exact ⟨by rw [HE.out, HC.out]; rfl, HS.out⟩
        · have hvn' : (vn : Int) < nn := by omega
          have hvn0 : (0 : Int) ≤ vn := by omega
          have hnn0 : (0 : Int) ≤ nn := by omega
          by_cases hab0 : ab / 2 ^ nn = 0
          · have habi : (ab : Int) / 2 ^ nn = 0 := by
              have h1 : (ab : Int) / 2 ^ nn = ((ab / 2 ^ nn : Nat) : Int) := by
                rw [Int.natCast_ediv, Int.natCast_pow]
                rfl
              rw [h1, hab0]
              rfl
            have HABI := Lib.hid habi
            have HAB0 := Lib.hid hab0
            clear hab0
            go_upto_region 8 with fail
            have HV := Lib.hid hvn'
            by_cases hbt : ab.testBit vn = true
            · have hbi : (bits .and .u64 ((ab : Int) / 2 ^ vn) 1 == 1) = true := by rw [sbit_int hab]; exact hbt
              have HE := Lib.hid (show lvE xs ab (vn : Int) = 4 by unfold lvE; rw [HFM.out, if_pos rfl, HNN.out, if_neg (by rintro (h | h | h); omega; omega; exact h HAB0.out), Int.toNat_natCast, if_pos hbt])
              have HC := Lib.hid (show lvC xs ab (vn : Int) = 0 by unfold lvC; rw [HE.out]; rfl)
              clear hbt
              go_wp2
              go_ret2
              exact ⟨by rw [HE.out, HC.out]; rfl, HS.out⟩
            · have hbi : (bits .and .u64 ((ab : Int) / 2 ^ vn) 1 == 1) = false := by rw [sbit_int hab]; simpa using hbt
              have HE := Lib.hid (show lvE xs ab (vn : Int) = 0 by unfold lvE; rw [HFM.out, if_pos rfl, HNN.out, if_neg (by rintro (h | h | h); omega; omega; exact h HAB0.out), Int.toNat_natCast, if_neg hbt])
              have HC := Lib.hid (show lvC xs ab (vn : Int) = cntL nn vn (setAt nn (tSet xs) (bitsL nn ab)) by unfold lvC; rw [HE.out, if_pos rfl, HNN.out, Int.toNat_natCast])
              clear hbt
              have hFN : ∀ ws ∈ tSet xs, FormN nn ws := tSet_form HFM.out HND.out
              have HFN := Lib.hid hFN
              have hoks : ∀ t ∈ xs, TbOk w1 t ∧ t.N = (nn : Int) ∧ 0 < t.ws.length ∧ t.ws.length ≤ 1024 := fun t ht => by
                obtain ⟨h1, h2⟩ := fm_all HFM.out t ht
                have hne : xs ≠ [] := by rintro rfl; cases ht
                have h3 := form_len (hFN t.ws (mem_uniq.2 (List.mem_map.2 ⟨t, ht, rfl⟩))) hn16
                exact ⟨(HOK.out t ht).same HS.out, h2.trans (HND.out hne), h3.1, h3.2⟩
              have HOS := Lib.hid hoks
              clear hFN hoks
              go_wp2_with (fail)
              refine (sof_any _ n C xs (nn : Int) w1 (Sl.same H.out HS.out) HOS.out (by omega)).mono ?_
              rintro e w3 ⟨b, D, rfl, hs, hbw, hst⟩
              replace HS := Lib.hid (HS.out.trans hs (fun _ _ h => h))
              have HST := Lib.hid (hst.iff (M' := fun ws => ws ∈ tSet xs) (fun ws => by
                unfold tSet
                rw [mem_uniq, List.mem_map]
                exact ⟨fun ⟨t, h1, h2⟩ => ⟨t, h1, h2.symm⟩, fun ⟨t, h1, h2⟩ => ⟨t, h1, h2.symm⟩⟩))
              obtain ⟨L0, hL0⟩ : ∃ z, z = tSet xs := ⟨_, rfl⟩
              have hL0n : L0.length ≤ n := by rw [hL0, HXL.out]; exact tSet_len xs
              have hL0d : L0.Nodup := by rw [hL0]; exact uniq_nodup _
              rw [← hL0] at HST HC HFN
              have HL0D := Lib.hid hL0d
              have HL0N := Lib.hid hL0n
              clear hs hbw hst hL0 hL0d hL0n HOS hbi HABI
              go_wp2
              go_loopw [9, 44] (fun s i wi => ∃ (k b m lo : Nat) (D : DataW Value), k ≤ nn ∧ i = .int .i64 k ∧ s = .map (some b) ∧ Same w wi ∧ ST lo wi b m D (nn : Int) (fun ws => ws ∈ setAt nn L0 (bitsL k ab)) ∧ m ≤ 2 ^ k * n) (fun _ i _ => nn - (intOf i).toNat)
              case atStart => exact ⟨0, b, n, 0, D, by omega, rfl, rfl, HS.out, by simpa [setAt, bitsL] using HST.out, by simp⟩
              case round =>
                clear HS HST
                obtain ⟨k, b, m, lo, D, hk, rfl, rfl, hs, hst, hm⟩ := hrel
                have HMM := Lib.hid hm
                have HST := Lib.hid hst
                have HS := Lib.hid hs
                clear hm hst hs
                have hb1 : 65536 * n ≤ 1000000000000000000 := by omega
                have hk16 : k ≤ 16 := by omega
                have HHN := Lib.hid (show 2 ^ k * n ≤ 1000000000000000000 from Nat.le_trans (Nat.mul_le_mul_right n (Nat.pow_le_pow_right (Nat.le_succ 1) hk16)) hb1)
                have HHL := Lib.hid (show (setAt nn L0 (bitsL k ab)).length ≤ 1000000000000000000 from Nat.le_trans (setAt_len nn (bitsL k ab) L0) (Nat.le_trans (Nat.mul_le_mul (Nat.pow_le_pow_right (Nat.le_succ 1) (bits_len k ab)) HL0N.out) HHN.out))
                clear hb1
                by_cases hlt : k < nn
                · have hk0 : (0 : Int) ≤ k := by omega
                  have hk1 : (k : Int) < nn := by omega
                  by_cases hbk : ab.testBit k = true
                  · have hbi : (bits .and .u64 ((ab : Int) / 2 ^ k) 1 == 1) = true := by rw [sbit_int hab]; exact hbk
                    have HBS := Lib.hid (show bitsL (k + 1) ab = bitsL k ab ++ [k] by rw [bitsL_succ, if_pos hbk])
                    have HG := Lib.hid (given_any lo b m nn k D (setAt nn L0 (bitsL k ab)) wr HST.out (setAt_nodup _ HL0D.out) (setAt_form hn16 _ HFN.out) hlt hn16 (Nat.le_trans HMM.out HHN.out) HHL.out)
                    clear hbk
                    go_wp2_with (fail)
                    refine HG.out.mono ?_
                    rintro e w4 ⟨b', n', D', rfl, hs, _, hn', hst'⟩
                    have HS4 := Lib.hid (HS.out.trans hs (fun _ _ h => h))
                    have HST4 := Lib.hid (hst'.iff (M' := fun ws => ws ∈ setAt nn L0 (bitsL (k + 1) ab)) (fun ws => by rw [HBS.out, setAt_snoc, stepS_mem]))
                    have hm2 : 2 * (2 ^ k * n) = 2 ^ (k + 1) * n := by rw [Nat.pow_succ, Nat.mul_comm (2 ^ k) 2, Nat.mul_assoc]
                    have HM := Lib.hid (show n' ≤ 2 ^ (k + 1) * n from hm2 ▸ Nat.le_trans hn' (Nat.mul_le_mul_left 2 HMM.out))
                    clear hs hn' hst' hm2 HG hbi
                    go_wp2
                    go_roundw
                    case rel => exact ⟨k + 1, b', n', wr.heap.size, D', by omega, by go_num, rfl, HS4.out, HST4.out, HM.out⟩
                    case measure => simp [intOf] <;> omega
                  · have hbi : (bits .and .u64 ((ab : Int) / 2 ^ k) 1 == 1) = false := by rw [sbit_int hab]; simpa using hbk
                    have HBS := Lib.hid (show bitsL (k + 1) ab = bitsL k ab by rw [bitsL_succ, if_neg hbk, List.append_nil])
                    have HM := Lib.hid (show m ≤ 2 ^ (k + 1) * n from Nat.le_trans HMM.out (Nat.mul_le_mul_right n (Nat.pow_le_pow_right (Nat.le_succ 1) (Nat.le_succ k))))
                    clear hbk
                    go_wp2
                    go_roundw
                    case rel => exact ⟨k + 1, b, m, lo, D, by omega, by go_num, rfl, HS.out, by rw [HBS.out]; exact HST.out, HM.out⟩
                    case measure => simp [intOf] <;> omega
                · obtain rfl : k = nn := by omega
                  have HG := Lib.hid (given_any lo b m k vn D (setAt k L0 (bitsL k ab)) wr HST.out (setAt_nodup _ HL0D.out) (setAt_form hn16 _ HFN.out) (by omega) hn16 (Nat.le_trans HMM.out HHN.out) HHL.out)
                  go_wp2_with (fail)
                  refine HG.out.mono ?_
                  rintro e w4 ⟨b', n', D', rfl, hs, _, _, _⟩
                  have HS4 := Lib.hid (HS.out.trans hs (fun _ _ h => h))
                  clear hs HG
                  go_wp2
                  go_ret2
                  exact ⟨by rw [HE.out, HC.out]; rfl, HS4.out⟩
          · have habi : ((ab : Int) / 2 ^ nn != 0) = true := by
              have h1 : (ab : Int) / 2 ^ nn = ((ab / 2 ^ nn : Nat) : Int) := by
                rw [Int.natCast_ediv, Int.natCast_pow]
                rfl
              rw [h1]
              simp only [bne_iff_ne, ne_eq]
              omega
            have HE := Lib.hid (show lvE xs ab (vn : Int) = 2 by unfold lvE; rw [HFM.out, if_pos rfl, if_pos (.inr (.inr (by rw [HNN.out]; exact hab0)))])
            have HC := Lib.hid (show lvC xs ab (vn : Int) = 0 by unfold lvC; rw [HE.out]; rfl)
            go_wp2
            go_ret2
            exact ⟨by rw [HE.out, HC.out]; rfl, HS.out⟩
end Go.Proofs.Ytakepdkokjecoaa


/- Truth tables: good of the law, formed of the reference. -/
namespace Go.Proofs.Ytakepdkokjecoaa
open Go.RowKit Go.Tk

end Go.Proofs.Ytakepdkokjecoaa


/- Truth tables: At of the program and of the reference. -/
namespace Go.Proofs.Ytakepdkokjecoaa
open Go.RowKit Go.Tk

def atE (fr : Bool) (N : Int) (x : Nat) : Int := if fr then (if x < 2 ^ N.toNat then 0 else 1) else 5
def atB (N : Int) (ws : List Nat) (x : Nat) : Bool := if atE (frm N ws) N x = 0 then vb ws x else false
theorem and1_bit (y r : Nat) (hy : y < 18446744073709551616) : (bits .and .u64 ((y / 2 ^ r : Nat) : Int) 1 == 1) = y.testBit r := by
  have h1 : y / 2 ^ r ≤ y := Nat.div_le_self _ _
  have h3 := u64_and_nat (y / 2 ^ r) 1 (by omega) (by omega)
  rw [nat_mask1] at h3
  rw [show (1 : Int) = ((1 : Nat) : Int) from rfl, h3, testBit_dm]
  generalize y / 2 ^ r % 2 = z
  rw [Bool.eq_iff_iff, beq_iff_eq, decide_eq_true_eq]
  omega
end Go.Proofs.Ytakepdkokjecoaa


/- Truth tables: TruthPoints: the walk. -/
namespace Go.Proofs.Ytakepdkokjecoaa
open Go.RowKit Go.Tk

theorem popS_cnt {ws : List Nat} : ∀ k, k ≤ ws.length → popS ws k = cntB (vb ws) (64 * k)
  | 0, _ => rfl
  | k + 1, h => by
    obtain ⟨x, hx⟩ : ∃ x, ws[k]? = some x := ⟨_, List.getElem?_eq_getElem (by omega)⟩
    rw [popS_succ hx, popS_cnt k (by omega), show 64 * (k + 1) = 64 * k + 64 by omega, cntB_add]
    unfold popc
    congr 1
    exact cntB_congr fun j hj => (vb_word hx hj).symm
theorem popS_form {n : Nat} {ws : List Nat} (h : FormN n ws) : popS ws ws.length = cntB (vb ws) (2 ^ n) := by
  rw [popS_cnt _ (Nat.le_refl _), h.len]
  by_cases h6 : 6 ≤ n
  · rw [Nat.mul_comm, nw_mul h6]
  · have hp := Nat.pow_le_pow_right (show 0 < 2 by omega) (show n ≤ 5 by omega)
    rw [nw_small (by omega), show 64 * 1 = 2 ^ n + (64 - 2 ^ n) by omega, cntB_add]
    have : cntB (fun j => vb ws (2 ^ n + j)) (64 - 2 ^ n) = 0 := cntB_false fun j hj => by
      unfold vb
      have hlt : 2 ^ n + j < 64 := by omega
      rw [Nat.div_eq_of_lt hlt, Nat.mod_eq_of_lt hlt]
      exact Nat.testBit_lt_two_pow (Nat.lt_of_lt_of_le (h.top (by omega)) (Nat.pow_le_pow_right (by omega) (by omega)))
    omega
end Go.Proofs.Ytakepdkokjecoaa


/- Truth tables: the reference's DocConst, DocVar. -/
namespace Go.Proofs.Ytakepdkokjecoaa
open Go.RowKit Go.Tk

end Go.Proofs.Ytakepdkokjecoaa


/- Truth tables: TruthForms: the walk. -/
namespace Go.Proofs.Ytakepdkokjecoaa
open Go.RowKit Go.Tk

theorem tab_len_le {n : Nat} {F : Nat → Bool} (h : n ≤ 16) : (tab n F).length ≤ 1000000000000000000 := by
  rw [tab_len]
  have := nw_le h
  omega
theorem cntE_len {N : Int} {F : Nat → Bool} : (ansL (tab N.toNat F) (cntE N)).length ≤ 1000000000000000000 := by
  unfold ansL
  split
  · rename_i h
    have := cntE_ok h
    exact tab_len_le (by omega)
  · simp
theorem varE_len {N v : Int} {F : Nat → Bool} : (ansL (tab N.toNat F) (varE N v)).length ≤ 1000000000000000000 := by
  unfold ansL
  split
  · rename_i h
    unfold varE at h
    split at h
    · rename_i h2; exact absurd h h2
    · rename_i h2
      have := cntE_ok (Decidable.not_not.1 h2)
      exact tab_len_le (by omega)
  · simp
end Go.Proofs.Ytakepdkokjecoaa


/- Truth tables: Ite of the program. -/
namespace Go.Proofs.Ytakepdkokjecoaa
open Go.RowKit Go.Tk

def iteN (x y z : Nat) : Nat := (x &&& y) ||| (notN x &&& z)
theorem iteN_lt {x y z : Nat} (hx : x < 18446744073709551616) : iteN x y z < 18446744073709551616 :=
  Nat.or_lt_two_pow (n := 64) (Nat.lt_of_le_of_lt Nat.and_le_left hx) (Nat.lt_of_le_of_lt Nat.and_le_left (notN_lt x))
theorem iteN_bit {x y z j : Nat} (hx : x < 18446744073709551616) (hj : j < 64) : (iteN x y z).testBit j = if x.testBit j then y.testBit j else z.testBit j := by
  unfold iteN
  rw [Nat.testBit_or, Nat.testBit_and, Nat.testBit_and, notN_bit hx hj]
  cases x.testBit j <;> simp
def iteF (wsa wsb wsc : List Nat) : Nat → Bool := fun i => if vb wsa i then vb wsb i else vb wsc i
theorem fm_three {Na Nb Nc : Int} {Aa Ab Ac : Option Addr} {Ca Cb Cc : Nat} {wsa wsb wsc : List Nat} (h : fm [⟨Na, Aa, Ca, wsa⟩, ⟨Nb, Ab, Cb, wsb⟩, ⟨Nc, Ac, Cc, wsc⟩] = true) : ∃ n : Nat, Na = n ∧ Nb = n ∧ Nc = n ∧ FormN n wsa ∧ FormN n wsb ∧ FormN n wsc := by
  simp [fm, Tb.frm] at h
  obtain ⟨h1, ⟨h2, h3⟩, h4, h5⟩ := h
  obtain ⟨n, rfl, ha⟩ := frm_true h1
  rw [h3] at h2
  rw [h5] at h4
  exact ⟨n, rfl, h3, h5, ha, frm_nat.1 h2, frm_nat.1 h4⟩
end Go.Proofs.Ytakepdkokjecoaa


/- Truth tables: the reference's DocNot, DocBinary, DocIte. -/
namespace Go.Proofs.Ytakepdkokjecoaa
open Go.RowKit Go.Tk

end Go.Proofs.Ytakepdkokjecoaa


/- Truth tables: TruthJoins: the walk. -/
namespace Go.Proofs.Ytakepdkokjecoaa
open Go.RowKit Go.Tk

abbrev TIn (w : World) := {t : Tb // TbIn w t}
theorem tabs_at {w : World} {A : Option Addr} {n : Nat} {xs : List (TIn w)} (h : Sl w 2 (fun x : TIn w => x.1.cells) A n xs) {i : Nat} (hi : i < n) : ∃ (bl o : Nat) (t : Tb), A = some ⟨bl, o, none⟩ ∧ bl < w.heap.size ∧ TbIn w t ∧
    w.cell? ⟨bl, o + i * 2 + 0, none⟩ = some (.int .i64 t.N) ∧ w.cell? ⟨bl, o + i * 2 + 1, none⟩ = some (.slice t.A t.ws.length t.C) := by
  obtain ⟨x, hx⟩ : ∃ x, xs[i]? = some x := ⟨_, List.getElem?_eq_getElem (by rw [← h.len]; exact hi)⟩
  obtain ⟨b, o, hA, hb, hc⟩ := h.get i x hx
  exact ⟨b, o, x.1, hA, hb, x.2, hc 0 (by omega), hc 1 (by omega)⟩
theorem fmE_len {N : Int} {F : Nat → Bool} {b : Bool} (h : b = true → N.toNat ≤ 16) : (ansL (tab N.toNat F) (fmE b)).length ≤ 1000000000000000000 := by
  cases b with
  | false => simp [fmE, ansL]
  | true =>
    rw [show ansL (tab N.toNat F) (fmE true) = tab N.toNat F from rfl]
    exact tab_len_le (h rfl)
theorem binE_len {N : Int} {F : Nat → Bool} {b : Bool} {op : Nat} (h : b = true → N.toNat ≤ 16) : (ansL (tab N.toNat F) (binE op b)).length ≤ 1000000000000000000 := by
  unfold binE
  split
  · simp [ansL]
  · exact fmE_len h
theorem frm_16 {N : Int} {ws : List Nat} (h : frm N ws = true) : N.toNat ≤ 16 := by
  obtain ⟨n, rfl, hf⟩ := frm_true h
  have := hf.n16
  omega
theorem fm_16 {N : Int} {A : Option Addr} {C : Nat} {ws : List Nat} {r : List Tb} (h : fm (⟨N, A, C, ws⟩ :: r) = true) : N.toNat ≤ 16 := by
  have : frm N ws = true := by
    simp [fm, Tb.frm] at h
    exact h.1
  exact frm_16 this
end Go.Proofs.Ytakepdkokjecoaa


/- Truth tables: slices.Equal at words; Support of the program and of the reference; DocCount. -/
namespace Go.Proofs.Ytakepdkokjecoaa
open Go.RowKit Go.Tk

set_option maxRecDepth 100000 in
set_option maxHeartbeats 4000000 in
theorem equalW_any (Aa : Option Addr) (La Ca : Nat) (wsa : List Nat) (Ab : Option Addr) (Lb Cb : Nat) (wsb : List Nat) (w : World) (ha : WL w Aa La wsa) (hb : WL w Ab Lb wsb) (hbd : La ≤ 1000000000000000000) :
    Calls Try.prog 42 #[.slice Aa La Ca, .slice Ab Lb Cb] w fun e w' => e = .returned (.bool (decide (wsa = wsb))) ∧ Same w w' := by
  have hla := ha.len
  have hlb := hb.len
  obtain ⟨r, hr⟩ : ∃ r, decide (wsa = wsb) = r := ⟨_, rfl⟩
  rw [hr]
  have HA := Lib.hid ha
  have HB := Lib.hid hb
  by_cases h2 : La = Lb
  · subst h2
    have HR := Lib.hid hr
    have HLA := Lib.hid hla
    have HLB := Lib.hid hlb
    clear hr hla hlb ha hb
    go_enter Try.func42, Try.ntmps42
    go_wp2
    go_loopw [13] (fun i wr => ∃ k : Nat, k ≤ La ∧ i = .int .i64 k ∧ (∀ j x y, wsa[j]? = some x → wsb[j]? = some y → j < k → x = y) ∧ Same w wr) (fun i _ => La - (intOf i).toNat)
    case atStart => exact ⟨0, by omega, rfl, fun j x y _ _ h => by omega, Frm.refl _ _⟩
    case round =>
      obtain ⟨k, hk, rfl, hall, hs⟩ := hrel
      have HALL := Lib.hid hall
      have HSR := Lib.hid hs
      clear hall
      by_cases hlt : k < La
      · have hk0 : (0 : Int) ≤ k := by omega
        have hk1 : (k : Int) < La := by omega
        obtain ⟨x, hx⟩ : ∃ x, wsa[k]? = some x := ⟨_, List.getElem?_eq_getElem (by rw [← HLA.out]; exact hlt)⟩
        obtain ⟨y, hy⟩ : ∃ x, wsb[k]? = some x := ⟨_, List.getElem?_eq_getElem (by rw [← HLB.out]; exact hlt)⟩
        obtain ⟨ba, offa, hAa, hbla, hca⟩ := WL.at1 (Sl.same HA.out hs) hx
        obtain ⟨bb, offb, hAb, hblb, hcb⟩ := WL.at1 (Sl.same HB.out hs) hy
        subst hAa hAb
        have HX := Lib.hid hx
        have HY := Lib.hid hy
        clear hx hy hs
        by_cases hxy : x = y
        · subst hxy
          have hbq : ((x : Int) != (x : Int)) = false := by simp
          go_upto_region 6 with fail
          refine wp_quiet (by kernel_rfl) (by kernel_rfl) ?_
          repeat (any_goals (first | go_big_quiet_step (fail) | quiet_step (fail)))
          refine wpQuiet_nil ?_
          rintro wq ⟨q, hq⟩
          have hsq : Same wr wq := by rw [hq]; exact more_same _ q
          clear hq
          go_wp2
          go_roundw
          case rel => exact ⟨k + 1, by omega, by go_num, fun j x' y' hx' hy' hj => by
            by_cases hjk : j < k
            · exact HALL.out j x' y' hx' hy' hjk
            · obtain rfl : j = k := by omega
              exact (Option.some.inj (hx'.symm.trans HX.out)).trans (Option.some.inj (hy'.symm.trans HY.out)).symm, HSR.out.trans hsq (fun _ _ h => h)⟩
          case measure => simp [intOf] <;> omega
        · have hf : r = false := by
            rw [← HR.out]
            rw [decide_eq_false_iff_not]
            intro hw
            rw [hw] at HX
            exact hxy (Option.some.inj (HX.out.symm.trans HY.out))
          subst hf
          have hxi : (x : Int) ≠ y := by omega
          go_upto_region 6 with fail
          refine wp_quiet (by kernel_rfl) (by kernel_rfl) ?_
          repeat (any_goals (first | go_big_quiet_step (fail) | quiet_step (fail)))
          refine wpQuiet_nil ?_
          rintro wq ⟨q, hq⟩
          have hsq : Same wr wq := by rw [hq]; exact more_same _ q
          clear hq
          go_wp2
          go_ret
          exact ⟨rfl, HSR.out.trans hsq (fun _ _ h => h)⟩
      · obtain rfl : k = La := by omega
        have hf : r = true := by
          rw [← HR.out]
          rw [decide_eq_true_eq]
          refine List.ext_getElem? fun j => ?_
          by_cases hj : j < k
          · obtain ⟨x, hx⟩ : ∃ x, wsa[j]? = some x := ⟨_, List.getElem?_eq_getElem (by rw [← HLA.out]; exact hj)⟩
            obtain ⟨y, hy⟩ : ∃ x, wsb[j]? = some x := ⟨_, List.getElem?_eq_getElem (by rw [← HLB.out]; exact hj)⟩
            rw [hx, hy, HALL.out j x y hx hy hj]
          · rw [List.getElem?_eq_none (by rw [← HLA.out]; omega), List.getElem?_eq_none (by rw [← HLB.out]; omega)]
        subst hf
        clear hs
        go_wp2
        go_ret
        exact ⟨rfl, HSR.out⟩
  · have hf : r = false := by
      rw [← hr]
      rw [decide_eq_false_iff_not]
      intro hw
      rw [hw] at hla
      omega
    subst hf
    have h3 : (La : Int) ≠ Lb := by omega
    clear hr hla hlb ha hb
    go_enter Try.func42, Try.ntmps42
    go_wp2
    go_ret
    exact ⟨rfl, Frm.refl _ _⟩
theorem run_words (a : Int) (A : Option Addr) (n C : Nat) (w : World) : (Instr.field 37 (.agg #[.int .i64 a, .slice A n C]) 1).run Try.prog w = .ok (.slice A n C) w := rfl
/-- does it depend on v? -/
def depB (n : Nat) (ws : List Nat) (v : Nat) : Bool := !decide (tab n (hfF v false ws) = tab n (hfF v true ws))
theorem depB_false {n : Nat} {ws : List Nat} {v : Nat} (h : ∀ i, i < 2 ^ n → hfF v false ws i = hfF v true ws i) : depB n ws v = false := by
  unfold depB
  rw [tab_congr h]
  simp
theorem depB_true {n : Nat} {ws : List Nat} {v i : Nat} (hi : i < 2 ^ n) (h : hfF v false ws i ≠ hfF v true ws i) : depB n ws v = true := by
  unfold depB
  have : tab n (hfF v false ws) ≠ tab n (hfF v true ws) := fun he => h (by
    have h2 := congrArg (fun t => vb t i) he
    simp only [vb_tab hi] at h2
    exact h2)
  simp [this]
def supN (N : Int) (ws : List Nat) : Nat := if frm N ws then bsum (depB N.toNat ws) N.toNat else 0
theorem bsum_add (F : Nat → Bool) (j : Nat) : bsum F j + (if F j then 2 ^ j else 0) = bsum F (j + 1) := rfl
set_option maxRecDepth 100000 in
set_option maxHeartbeats 8000000 in
theorem Support_any (Na : Int) (Aa : Option Addr) (Ca : Nat) (wsa : List Nat) (w : World) (h : TbOk w ⟨Na, Aa, Ca, wsa⟩) : Calls Try.prog 32 #[.agg #[.int .i64 Na, .slice Aa wsa.length Ca]] w fun e w' => e = .returned (.tuple #[.int .u64 (supN Na wsa : Nat), .int .i64 (fmE (frm Na wsa))]) ∧ Same w w' := by
  have H := Lib.hid h
  clear h
  unfold supN
  cases hfr : frm Na wsa with
  | false =>
    rw [if_neg (by decide), show fmE false = 5 from rfl]
    have HFM := Lib.hid ((frm_one Na Aa Ca wsa).trans hfr)
    clear hfr
    go_enter Try.func32, Try.ntmps32
    go_upto_region 1 with fail
    refine wp_world fun w1 hw1 => ?_
    have hs1 : Same w w1 := by rw [hw1]; exact (Frm.refl _ _).alloc _
    have hBXa : Blk w1 (w.heap.size) 37 #[.int .i64 Na, .slice Aa wsa.length Ca] := by
      rw [hw1]
      have := (Blk.new w 37 #[.int .i64 Na, .slice Aa wsa.length Ca])
      simpa using this
    clear hw1
    have cXa0 : w1.cell? ⟨w.heap.size, 0, none⟩ = some (.int .i64 Na) := hBXa.cell 0
    have cXa1 : w1.cell? ⟨w.heap.size, 1, none⟩ = some (.slice Aa wsa.length Ca) := hBXa.cell 1
    have lXa := hBXa.lt
    have fXa0 := hBXa.free 0
    have fXa1 := hBXa.free 1
    have HBXa := Lib.hid hBXa
    have HS1 := Lib.hid hs1
    clear hs1 hBXa
    have HOKa := Lib.hid (H.out.same HS1.out)
    go_wp2_with (fail)
    refine call_world fun w2 hw2 => ?_
    have hs2 : Same w1 w2 := by rw [hw2]; exact (Frm.refl _ _).alloc _
    have hBL : Blk w2 w1.heap.size 37 #[.int .i64 Na, .slice Aa wsa.length Ca] := by rw [hw2]; exact Blk.new _ _ _
    have htbs : Tbs w2 w1.heap.size [⟨Na, Aa, Ca, wsa⟩] := by
      intro i t hi
      match i, hi with
      | 0, hi =>
        simp only [List.getElem?_cons_zero, Option.some.injEq] at hi
        subst hi
        exact ⟨hBL.lt, hBL.cell 0, hBL.cell 1⟩
      | i + 1, hi => simp at hi
    have hfc := form_any w1.heap.size 1 1 [⟨Na, Aa, Ca, wsa⟩] w2 rfl (by decide) htbs (fun t ht => by
      simp only [List.mem_cons, List.not_mem_nil, or_false] at ht
      rcases ht with rfl
      · exact (HOKa.out).same hs2)
    rw [HFM.out] at hfc
    refine hfc.mono ?_
    clear hfc htbs hBL hw2
    rintro e w3 ⟨rfl, hs3⟩
    have hs13 : Same w1 w3 := hs2.trans hs3 (fun _ _ h => h)
    clear hs2 hs3
    replace HBXa := Lib.hid (HBXa.out.frm hs13 id)
    replace cXa0 : w3.cell? ⟨w.heap.size, 0, none⟩ = some (.int .i64 Na) := HBXa.out.cell 0
    replace cXa1 : w3.cell? ⟨w.heap.size, 1, none⟩ = some (.slice Aa wsa.length Ca) := HBXa.out.cell 1
    replace lXa := HBXa.out.lt
    replace fXa0 := HBXa.out.free 0
    replace fXa1 := HBXa.out.free 1
    replace HS1 := Lib.hid (HS1.out.trans hs13 (fun _ _ h => h))
    clear hs13
    go_wp2
    go_ret2
    exact ⟨rfl, HS1.out⟩
  | true =>
    obtain ⟨n, rfl, hform⟩ := frm_true hfr
    rw [if_pos rfl, show fmE true = 0 from rfl, Int.toNat_natCast]
    have HFM := Lib.hid ((frm_one n Aa Ca wsa).trans hfr)
    have hn := hform.n16
    have HF := Lib.hid hform
    clear hfr hform
    obtain ⟨pf, hpf⟩ : ∃ p, bsum (depB n wsa) n = p := ⟨_, rfl⟩
    rw [hpf]
    have HPF := Lib.hid hpf
    clear hpf
    go_enter Try.func32, Try.ntmps32
    go_upto_region 1 with fail
    refine wp_world fun w1 hw1 => ?_
    have hs1 : Same w w1 := by rw [hw1]; exact (Frm.refl _ _).alloc _
    have hBXa : Blk w1 (w.heap.size) 37 #[.int .i64 n, .slice Aa wsa.length Ca] := by
      rw [hw1]
      have := (Blk.new w 37 #[.int .i64 n, .slice Aa wsa.length Ca])
      simpa using this
    clear hw1
    have cXa0 : w1.cell? ⟨w.heap.size, 0, none⟩ = some (.int .i64 n) := hBXa.cell 0
    have cXa1 : w1.cell? ⟨w.heap.size, 1, none⟩ = some (.slice Aa wsa.length Ca) := hBXa.cell 1
    have lXa := hBXa.lt
    have fXa0 := hBXa.free 0
    have fXa1 := hBXa.free 1
    have HBXa := Lib.hid hBXa
    have HS1 := Lib.hid hs1
    clear hs1 hBXa
    have HOKa := Lib.hid (H.out.same HS1.out)
    go_wp2_with (fail)
    refine call_world fun w2 hw2 => ?_
    have hs2 : Same w1 w2 := by rw [hw2]; exact (Frm.refl _ _).alloc _
    have hBL : Blk w2 w1.heap.size 37 #[.int .i64 n, .slice Aa wsa.length Ca] := by rw [hw2]; exact Blk.new _ _ _
    have htbs : Tbs w2 w1.heap.size [⟨n, Aa, Ca, wsa⟩] := by
      intro i t hi
      match i, hi with
      | 0, hi =>
        simp only [List.getElem?_cons_zero, Option.some.injEq] at hi
        subst hi
        exact ⟨hBL.lt, hBL.cell 0, hBL.cell 1⟩
      | i + 1, hi => simp at hi
    have hfc := form_any w1.heap.size 1 1 [⟨n, Aa, Ca, wsa⟩] w2 rfl (by decide) htbs (fun t ht => by
      simp only [List.mem_cons, List.not_mem_nil, or_false] at ht
      rcases ht with rfl
      · exact (HOKa.out).same hs2)
    rw [HFM.out] at hfc
    refine hfc.mono ?_
    clear hfc htbs hBL hw2
    rintro e w3 ⟨rfl, hs3⟩
    have hs13 : Same w1 w3 := hs2.trans hs3 (fun _ _ h => h)
    clear hs2 hs3
    replace HBXa := Lib.hid (HBXa.out.frm hs13 id)
    replace cXa0 : w3.cell? ⟨w.heap.size, 0, none⟩ = some (.int .i64 n) := HBXa.out.cell 0
    replace cXa1 : w3.cell? ⟨w.heap.size, 1, none⟩ = some (.slice Aa wsa.length Ca) := HBXa.out.cell 1
    replace lXa := HBXa.out.lt
    replace fXa0 := HBXa.out.free 0
    replace fXa1 := HBXa.out.free 1
    replace HS1 := Lib.hid (HS1.out.trans hs13 (fun _ _ h => h))
    clear hs13
    go_wp2
    go_loopw [4, 12] (fun s i wr => ∃ k : Nat, k ≤ n ∧ i = .int .i64 k ∧ s = .int .u64 (bsum (depB n wsa) k : Nat) ∧ Same w3 wr) (fun _ i _ => n - (intOf i).toNat)
    case atStart => exact ⟨0, by omega, rfl, rfl, Frm.refl _ _⟩
    case round =>
      obtain ⟨k, hk, rfl, rfl, hs⟩ := hrel
      have HS0 := Lib.hid hs
      have HBr := Lib.hid (HBXa.out.frm hs id)
      have HSr := Lib.hid (HS1.out.trans hs (fun _ _ h => h))
      have dX0 : wr.cell? ⟨w.heap.size, 0, none⟩ = some (.int .i64 n) := HBr.out.cell 0
      have dX1 : wr.cell? ⟨w.heap.size, 1, none⟩ = some (.slice Aa wsa.length Ca) := HBr.out.cell 1
      have dXl := HBr.out.lt
      clear cXa0 cXa1 fXa0 fXa1 lXa hs
      by_cases hlt : k < n
      · have hk1 : (k : Int) < n := by omega
        have hbl := bsum_lt (depB n wsa) k
        have hpk : 2 ^ k ≤ 2 ^ 15 := Nat.pow_le_pow_right (by omega) (by omega)
        have hst := bsum_or (depB n wsa) k
        have hdp : (!decide (tab n (hfF k false wsa) = tab n (hfF k true wsa))) = depB n wsa k := rfl
        have HST := Lib.hid hst
        have HDP := Lib.hid hdp
        have HLK := Lib.hid hlt
        have hsw : IntKind.u64.wrap ((2 : Int) ^ k) = ((2 ^ k : Nat) : Int) := by
          rw [pow_int]
          generalize 2 ^ k = p at hpk
          exact IntWalk.u64_in _ (by omega)
        have hk0 : (0 : Int) ≤ k := by omega
        have hmk : min k 64 = k := by omega
        have hor := u64_or_nat (bsum (depB n wsa) k) (2 ^ k) (by omega) (by omega)
        rw [← pow_int k] at hor
        clear hst hdp
        generalize bsum (depB n wsa) k = bs at *
        have hfld := run_words
        go_upto_region 7 with fail
        refine wp_phS (fun _ => False) [([0, 1, 4, 5], 2), ([3], 6), ([7], 8), ([], 9)] (by kernel_rfl) (by kernel_rfl) ?_
        simp only [wpPh, pick, List.map_cons, List.map_nil, List.getD_cons_zero, List.getD_cons_succ]
        have hs : Same wr wr.drew := (Frm.refl _ _).drew
        repeat (any_goals (first | go_big_quiet_step (fail) | quiet_step (fail)))
        refine wpQuiet_nil ?_
        refine effStep_plain rfl fun K hK => ?_
        go_simp
        refine (half_any n k false Aa Ca wsa _ (H.out.same (HSr.out.trans hs (fun _ _ h => h))) HF.out HLK.out).mono ?_
        rintro e u ⟨A0, C0, rfl, hNT⟩
        have hs := hs.trans hNT.2.2 (fun _ _ h => h)
        have ho0 := hNT.1
        refine hK _ _ (Lat.mk_ (Frm.mono hs (fun _ _ h => h.elim))) ?_
        clear hK K hNT
        repeat (any_goals (first | go_big_quiet_step (fail) | quiet_step (fail)))
        refine wpQuiet_nil ?_
        refine effStep_plain rfl fun K hK => ?_
        go_simp
        refine (half_any n k true Aa Ca wsa _ (H.out.same (HSr.out.trans hs (fun _ _ h => h))) HF.out HLK.out).mono ?_
        rintro e u ⟨A1, C1, rfl, hNT⟩
        have hs := hs.trans hNT.2.2 (fun _ _ h => h)
        have ho0 := Own.frm ho0 hNT.2.2 (fun _ _ => id)
        have ho1 := hNT.1
        refine hK _ _ (Lat.mk_ (Frm.mono hs (fun _ _ h => h.elim))) ?_
        clear hK K hNT
        repeat (any_goals (first | go_big_quiet_step (fail) | quiet_step (fail)))
        refine wpQuiet_nil ?_
        refine effStep_plain rfl fun K hK => ?_
        go_simp
        refine (equalW_any A0 _ C0 _ A1 _ C1 _ _ (ho0.sl ucell_len) (ho1.sl ucell_len) (tab_len_le hn)).mono ?_
        rintro e u ⟨rfl, hsz⟩
        have hs := hs.trans hsz (fun _ _ h => h)
        have hdd := HDP.out
        refine hK _ _ (Lat.mk_ (Frm.mono hs (fun _ _ h => h.elim))) ?_
        generalize decide (tab n (hfF k false wsa) = tab n (hfF k true wsa)) = dd at *
        have HDD := Lib.hid hdd
        clear hK K hsz ho0 ho1 hdd
        have HSN := Lib.hid (HS0.out.trans hs (fun _ _ h => h))
        have hBX := HBr.out.frm hs id
        clear hs
        cases dd
        · have hd : depB n wsa k = true := HDD.out.symm
          rw [hd, if_pos rfl] at HST
          refine wpQuiet_nil ?_
          go_wp2
          go_roundw
          case rel => exact ⟨k + 1, by omega, by go_num, by rw [← HST.out], HSN.out⟩
          case measure => simp [intOf] <;> omega
        · have hd : depB n wsa k = false := HDD.out.symm
          rw [hd, if_neg (by decide), Nat.or_zero] at HST
          refine wpQuiet_nil ?_
          go_wp2
          go_roundw
          case rel => exact ⟨k + 1, by omega, by go_num, by rw [← HST.out], HSN.out⟩
          case measure => simp [intOf] <;> omega
      · obtain rfl : k = n := by omega
        rw [HPF.out]
        go_wp2
        go_ret2
        exact ⟨rfl, HSr.out⟩
end Go.Proofs.Ytakepdkokjecoaa


/- Truth tables: Support of the reference; TruthTells: the walk. -/
namespace Go.Proofs.Ytakepdkokjecoaa
open Go.RowKit Go.Tk

end Go.Proofs.Ytakepdkokjecoaa


/- Truth tables: TruthTells: the walk. -/
namespace Go.Proofs.Ytakepdkokjecoaa
open Go.RowKit Go.Tk

end Go.Proofs.Ytakepdkokjecoaa


/- Truth tables: not and two of the law. -/
namespace Go.Proofs.Ytakepdkokjecoaa
open Go.RowKit Go.Tk

end Go.Proofs.Ytakepdkokjecoaa


/- Truth tables: what TruthShannon asks, plain. -/
namespace Go.Tk

theorem cntB_countP (F : Nat → Bool) : ∀ m, cntB F m = (List.range m).countP F
  | 0 => rfl
  | m + 1 => by
    rw [cntB, cntB_countP F m, List.range_succ, List.countP_append, List.countP_singleton]
theorem cntB_perm {F : Nat → Bool} {M : Nat} {σ : Nat → Nat} (h : ∀ i, i < M → σ i < M) (inj : ∀ i j, i < M → j < M → σ i = σ j → i = j) : cntB (fun i => F (σ i)) M = cntB F M := by
  have hnd : ((List.range M).map σ).Nodup := by
    rw [List.nodup_iff_pairwise_ne, List.pairwise_map]
    refine (List.nodup_iff_pairwise_ne.1 (List.nodup_range (n := M))).imp_of_mem fun ha hb hne he => ?_
    exact hne (inj _ _ (List.mem_range.1 ha) (List.mem_range.1 hb) he)
  have hp := sub_perm ((List.range M).map σ) (List.range M) hnd (fun x hx => by
    obtain ⟨i, hi, rfl⟩ := List.mem_map.1 hx
    exact List.mem_range.2 (h i (List.mem_range.1 hi))) (by simp)
  rw [cntB_countP, cntB_countP, hp.countP_eq F, List.countP_map]
  rfl
theorem cntB_sum {a b c d : Nat → Bool} : ∀ {m}, (∀ i, i < m → (a i).toNat + (b i).toNat = (c i).toNat + (d i).toNat) → cntB a m + cntB b m = cntB c m + cntB d m
  | 0, _ => rfl
  | m + 1, h => by
    have ih := cntB_sum (m := m) fun i hi => h i (by omega)
    have h1 := h m (by omega)
    have e : ∀ F : Nat → Bool, cntB F (m + 1) = cntB F m + (F m).toNat := fun F => by rw [cntB]; cases F m <;> rfl
    rw [e, e, e, e]
    omega
theorem wth_self (i v : Nat) : wth i v (i.testBit v) = i := (wth_of fun j => by
  by_cases h : j = v
  · subst h; simp
  · simp [h]).symm
theorem wth_twice (i v : Nat) (b c : Bool) : wth (wth i v b) v c = wth i v c := wth_of fun j => by
  rw [wth_bit, wth_bit]
  by_cases h : j = v <;> simp [h]
theorem wth_comm {i u v : Nat} {b c : Bool} (h : u ≠ v) : wth (wth i u b) v c = wth (wth i v c) u b := wth_of fun j => by
  rw [wth_bit, wth_bit, wth_bit]
  by_cases h1 : j = v
  · subst h1
    simp [Ne.symm h]
  · simp [h1]
theorem mask_sub {F G : Nat → Bool} {n V : Nat} (hn : n ≤ 64) (h : ∀ u, u < n → F u = true → G u = true ∧ u ≠ V) :
    bsum F n &&& (18446744073709551615 - (bsum G n &&& (18446744073709551615 - 2 ^ V % 18446744073709551616))) = 0 := by
  have hG : bsum G n < 18446744073709551616 := Nat.lt_of_lt_of_le (bsum_lt G n) (show 2 ^ n ≤ 2 ^ 64 from Nat.pow_le_pow_right (by omega) hn)
  have hp : 2 ^ V % 18446744073709551616 < 18446744073709551616 := Nat.mod_lt _ (by omega)
  have hx : bsum G n &&& (18446744073709551615 - 2 ^ V % 18446744073709551616) < 18446744073709551616 := Nat.lt_of_le_of_lt Nat.and_le_left hG
  apply Nat.eq_of_testBit_eq
  intro j
  rw [Nat.testBit_and, bsum_bit, Nat.zero_testBit]
  by_cases hj : j < n
  · cases hF : F j with
    | false => simp
    | true =>
      obtain ⟨h1, h2⟩ := h j hj hF
      have hj64 : j < 64 := by omega
      rw [not64_bit hx hj64, Nat.testBit_and, bsum_bit, not64_bit hp hj64, show (18446744073709551616 : Nat) = 2 ^ 64 by decide, Nat.testBit_mod_two_pow, Nat.testBit_two_pow]
      simp [hj, h1, Ne.symm h2]
  · simp [hj]
end Go.Tk
namespace Go.Proofs.Ytakepdkokjecoaa
open Go.RowKit Go.Tk

theorem depB_eq {n : Nat} {ws : List Nat} {u : Nat} (h : depB n ws u = false) {i : Nat} (hi : i < 2 ^ n) : vb ws (wth i u false) = vb ws (wth i u true) := by
  by_cases hne : vb ws (wth i u false) = vb ws (wth i u true)
  · exact hne
  · have := depB_true (n := n) (ws := ws) (v := u) hi hne
    rw [h] at this
    cases this
theorem dep_cof {n V u : Nat} {b : Bool} {ws : List Nat} (hV : V < n) (hu : u < n) (h : depB n (tab n (hfF V b ws)) u = true) : depB n ws u = true ∧ u ≠ V := by
  by_cases huV : u = V
  · subst huV
    rw [depB_false] at h
    · cases h
    · intro i hi
      unfold hfF
      rw [vb_tab (wth_lt hi hu), vb_tab (wth_lt hi hu), wth_twice, wth_twice]
  · refine ⟨?_, huV⟩
    cases hd : depB n ws u with
    | true => rfl
    | false =>
      rw [depB_false] at h
      · cases h
      · intro i hi
        show vb (tab n (hfF V b ws)) (wth i u false) = vb (tab n (hfF V b ws)) (wth i u true)
        rw [vb_tab (wth_lt hi hu), vb_tab (wth_lt hi hu)]
        unfold hfF
        rw [wth_comm huV, wth_comm huV]
        exact depB_eq hd (wth_lt hi hV)
theorem dep_ex {n V u : Nat} {ws : List Nat} (hV : V < n) (hu : u < n) (h : depB n (tab n (exF V ws)) u = true) : depB n ws u = true ∧ u ≠ V := by
  by_cases huV : u = V
  · subst huV
    rw [depB_false] at h
    · cases h
    · intro i hi
      show vb (tab n (exF u ws)) (wth i u false) = vb (tab n (exF u ws)) (wth i u true)
      rw [vb_tab (wth_lt hi hu), vb_tab (wth_lt hi hu)]
      unfold exF hfF
      rw [wth_twice, wth_twice, wth_twice, wth_twice]
  · refine ⟨?_, huV⟩
    cases hd : depB n ws u with
    | true => rfl
    | false =>
      rw [depB_false] at h
      · cases h
      · intro i hi
        show vb (tab n (exF V ws)) (wth i u false) = vb (tab n (exF V ws)) (wth i u true)
        rw [vb_tab (wth_lt hi hu), vb_tab (wth_lt hi hu)]
        unfold exF hfF
        rw [wth_comm (b := false) (c := false) huV, wth_comm (b := false) (c := true) huV, wth_comm (b := true) (c := false) huV, wth_comm (b := true) (c := true) huV, depB_eq hd (wth_lt (b := false) hi hV), depB_eq hd (wth_lt (b := true) hi hV)]
theorem shan_ite {n V : Nat} {ws : List Nat} (hf : FormN n ws) (hb : Small ws) : tab n (iteF (tab n (varF V)) (tab n (hfF V true ws)) (tab n (hfF V false ws))) = ws := by
  refine Eq.trans (tab_congr fun i hi => ?_) (tab_vb hf hb)
  unfold iteF
  rw [vb_tab hi, vb_tab hi, vb_tab hi]
  unfold varF hfF
  conv => rhs; rw [← wth_self i V]
  cases i.testBit V <;> rfl
theorem shan_or {n V : Nat} {ws : List Nat} : tab n (binF 14 (tab n (hfF V true ws)) (tab n (hfF V false ws))) = tab n (exF V ws) := tab_congr fun i hi => by
  unfold binF exF
  rw [vb_tab hi, vb_tab hi]
  cases hfF V true ws i <;> cases hfF V false ws i <;> decide
theorem shan_cnt {n V : Nat} {ws : List Nat} (hV : V < n) : cntB (vb (tab n (hfF V true ws))) (2 ^ n) + cntB (vb (tab n (hfF V false ws))) (2 ^ n) = 2 * cntB (vb ws) (2 ^ n) := by
  have hσ : cntB (fun i => vb ws (wth i V (!i.testBit V))) (2 ^ n) = cntB (vb ws) (2 ^ n) := cntB_perm (σ := fun i => wth i V (!i.testBit V)) (fun i hi => wth_lt hi hV) (fun i j _ _ h => by
    have h' : wth i V (!i.testBit V) = wth j V (!j.testBit V) := h
    apply Nat.eq_of_testBit_eq
    intro t
    have ht := congrArg (fun x => x.testBit t) h'
    have hv := congrArg (fun x => x.testBit V) h'
    simp only [wth_bit, if_true] at ht hv
    by_cases htV : t = V
    · subst htV
      simpa using hv
    · simpa [htV] using ht)
  rw [cntB_congr (F := vb (tab n (hfF V true ws))) (fun j hj => vb_tab hj), cntB_congr (F := vb (tab n (hfF V false ws))) (fun j hj => vb_tab hj)]
  have := cntB_sum (a := hfF V true ws) (b := hfF V false ws) (c := vb ws) (d := fun i => vb ws (wth i V (!i.testBit V))) (m := 2 ^ n) fun i _ => by
    unfold hfF
    conv => rhs; rw [← wth_self i V]
    rw [wth_bit, if_pos rfl, wth_twice]
    cases i.testBit V
    · simp only [Bool.not_false]; omega
    · simp only [Bool.not_true]
  omega
end Go.Proofs.Ytakepdkokjecoaa


/- Shape: the order of the variables above does not matter (plain). -/
namespace Go.Proofs.Ytakepdkokjecoaa
open Go.RowKit Go.Tk Go.Maps

def hT (nn v : Nat) (b : Bool) (x : List Nat) : List Nat := tab nn (hfF v b x)
theorem stepS_hT {nn v : Nat} {L : List (List Nat)} {y : List Nat} : y ∈ stepS nn v L ↔ ∃ x ∈ L, ∃ b, y = hT nn v b x := by
  rw [stepS_mem]
  constructor
  · rintro ⟨x, h, rfl | rfl⟩
    · exact ⟨x, h, false, rfl⟩
    · exact ⟨x, h, true, rfl⟩
  · rintro ⟨x, h, b, rfl⟩
    cases b
    · exact ⟨x, h, .inl rfl⟩
    · exact ⟨x, h, .inr rfl⟩
theorem hT_comm {nn u v : Nat} (hu : u < nn) (hv : v < nn) (hne : u ≠ v) (b c : Bool) (x : List Nat) : hT nn u b (hT nn v c x) = hT nn v c (hT nn u b x) := by
  unfold hT
  refine tab_congr fun i hi => ?_
  show vb (tab nn (hfF v c x)) (wth i u b) = vb (tab nn (hfF u b x)) (wth i v c)
  rw [vb_tab (wth_lt hi hu), vb_tab (wth_lt hi hv)]
  show vb x (wth (wth i u b) v c) = vb x (wth (wth i v c) u b)
  rw [wth_comm hne]
def MemEq (L K : List (List Nat)) : Prop := ∀ y, y ∈ L ↔ y ∈ K
theorem stepS_mono {nn v : Nat} {L K : List (List Nat)} (h : MemEq L K) : MemEq (stepS nn v L) (stepS nn v K) := fun y => by
  rw [stepS_hT, stepS_hT]
  exact ⟨fun ⟨x, h1, h2⟩ => ⟨x, (h x).1 h1, h2⟩, fun ⟨x, h1, h2⟩ => ⟨x, (h x).2 h1, h2⟩⟩
theorem stepS_swap {nn u v : Nat} (hu : u < nn) (hv : v < nn) (L : List (List Nat)) : MemEq (stepS nn u (stepS nn v L)) (stepS nn v (stepS nn u L)) := by
  by_cases hne : u = v
  · subst hne; exact fun y => Iff.rfl
  · intro y
    rw [stepS_hT, stepS_hT]
    constructor
    · rintro ⟨x, h1, b, rfl⟩
      obtain ⟨z, h2, c, rfl⟩ := stepS_hT.1 h1
      exact ⟨hT nn u b z, stepS_hT.2 ⟨z, h2, b, rfl⟩, c, hT_comm hu hv hne b c z⟩
    · rintro ⟨x, h1, b, rfl⟩
      obtain ⟨z, h2, c, rfl⟩ := stepS_hT.1 h1
      exact ⟨hT nn v b z, stepS_hT.2 ⟨z, h2, b, rfl⟩, c, (hT_comm hu hv hne c b z).symm⟩
theorem setAt_cons (nn v : Nat) (L : List (List Nat)) (vs : List Nat) : setAt nn L (v :: vs) = setAt nn (stepS nn v L) vs := by simp only [setAt, List.foldl_cons]
theorem setAt_mono {nn : Nat} : ∀ (vs : List Nat) {L K : List (List Nat)}, MemEq L K → MemEq (setAt nn L vs) (setAt nn K vs)
  | [], _, _, h => h
  | v :: vs, L, K, h => by
    rw [setAt_cons, setAt_cons]
    exact setAt_mono vs (stepS_mono h)
theorem setAt_perm {nn : Nat} {vs us : List Nat} (h : vs.Perm us) : (∀ v ∈ vs, v < nn) → ∀ L, MemEq (setAt nn L vs) (setAt nn L us) := by
  induction h with
  | nil => exact fun _ _ _ => Iff.rfl
  | cons v _ ih =>
    intro hv L
    rw [setAt_cons, setAt_cons]
    exact ih (fun x hx => hv x (List.mem_cons_of_mem _ hx)) (stepS nn v L)
  | swap a b l =>
    intro hv L
    rw [setAt_cons, setAt_cons, setAt_cons, setAt_cons]
    exact setAt_mono l (stepS_swap (hv a (by simp)) (hv b (by simp)) L)
  | trans h1 _ ih1 ih2 =>
    intro hv L y
    exact (ih1 hv L y).trans (ih2 (fun v hx => hv v (h1.mem_iff.2 hx)) L y)
theorem cntL_eq {nn v : Nat} {L K : List (List Nat)} (hL : L.Nodup) (hK : K.Nodup) (h : MemEq L K) : cntL nn v L = cntL nn v K := by
  unfold cntL
  exact (((List.perm_ext_iff_of_nodup hL hK).2 h).filter _).length_eq
theorem cnt_perm {nn v : Nat} {L : List (List Nat)} (hL : L.Nodup) {vs us : List Nat} (hvs : vs.Nodup) (hus : us.Nodup) (h : ∀ x, x ∈ vs ↔ x ∈ us) (hv : ∀ x ∈ vs, x < nn) : cntL nn v (setAt nn L vs) = cntL nn v (setAt nn L us) :=
  cntL_eq (setAt_nodup _ hL) (setAt_nodup _ hL) (setAt_perm ((List.perm_ext_iff_of_nodup hvs hus).2 h) hv L)
/-- the variables above, as bits -/
def abv (vs : List Nat) : Nat := vs.foldl (fun a v => a ||| 2 ^ v) 0
theorem abv_snoc (vs : List Nat) (v : Nat) : abv (vs ++ [v]) = abv vs ||| 2 ^ v := by simp [abv]
theorem or_foldl_bit (u : Nat) : ∀ (vs : List Nat) (a : Nat), (vs.foldl (fun a v => a ||| 2 ^ v) a).testBit u = (a.testBit u || decide (u ∈ vs))
  | [], a => by simp
  | v :: vs, a => by
    rw [List.foldl_cons, or_foldl_bit u vs, Nat.testBit_or, Nat.testBit_two_pow]
    by_cases h : u = v
    · subst h; simp
    · have : ¬ v = u := fun h' => h h'.symm
      simp [h, this]
theorem abv_bit (vs : List Nat) (u : Nat) : (abv vs).testBit u = decide (u ∈ vs) := by
  unfold abv
  rw [or_foldl_bit]
  simp
theorem abv_lt {vs : List Nat} {nn : Nat} (h : ∀ v ∈ vs, v < nn) : abv vs < 2 ^ nn := Nat.lt_pow_two_of_testBit _ fun i hi => by
  rw [abv_bit, decide_eq_false_iff_not]
  intro hm
  have := h i hm
  omega
theorem bitsL_mem {nn ab u : Nat} : u ∈ bitsL nn ab ↔ u < nn ∧ ab.testBit u = true := by
  unfold bitsL
  rw [List.mem_filter, List.mem_range]
theorem bitsL_nodup (nn ab : Nat) : (bitsL nn ab).Nodup := List.nodup_range.filter _
theorem cnt_abv {nn v : Nat} {L : List (List Nat)} (hL : L.Nodup) {vs : List Nat} (hvs : vs.Nodup) (hv : ∀ x ∈ vs, x < nn) : cntL nn v (setAt nn L (bitsL nn (abv vs))) = cntL nn v (setAt nn L vs) :=
  cnt_perm hL (bitsL_nodup _ _) hvs (fun x => by rw [bitsL_mem, abv_bit, decide_eq_true_eq]; exact ⟨fun h => h.2, fun h => ⟨hv x h, h⟩⟩) (fun x hx => (bitsL_mem.1 hx).1)
/-- what Level answers under an order's beginning -/
theorem level_of {xs : List Tb} {os : List Int} {l : Nat} {v : Nat} (he : prE xs os = 0) (hne : xs ≠ []) (hper : IsPerm os) (hv : os[l]? = some (v : Int)) :
    lvE xs (abv ((os.map Int.toNat).take l)) v = 0 ∧ lvC xs (abv ((os.map Int.toNat).take l)) v = cntL os.length v (setAt os.length (tSet xs) ((os.map Int.toNat).take l)) := by
  have hfm : fm xs = true := by
    cases h : fm xs with
    | true => rfl
    | false => unfold prE at he; rw [h] at he; cases he
  have hN : tN0 xs = (os.length : Int) := by
    unfold prE at he
    rw [hfm, if_pos rfl] at he
    by_cases hc : (0 < xs.length ∧ (os.length : Int) ≠ tN0 xs) ∨ chk os = 4
    · rw [if_pos hc] at he; cases he
    · by_cases hh : (os.length : Int) = tN0 xs
      · exact hh.symm
      · exact absurd (.inl ⟨List.length_pos_iff.2 hne, hh⟩) hc
  have hlv : lvN xs = os.length := by
    unfold lvN
    rw [if_neg (by rw [List.length_eq_zero_iff]; exact hne), hN]
    rfl
  have hnd : (os.map Int.toNat).Nodup := by
    rw [List.nodup_iff_pairwise_ne, List.pairwise_map]
    refine List.Pairwise.imp_of_mem ?_ hper.2
    intro a b ha hb hab h
    have h1 := hper.1 a ha
    have h2 := hper.1 b hb
    omega
  have hlt : ∀ x ∈ (os.map Int.toNat).take l, x < os.length := fun x hx => by
    obtain ⟨y, hy, rfl⟩ := List.mem_map.1 (List.mem_of_mem_take hx)
    have := hper.1 y hy
    omega
  have hvl := lt_of_get hv
  have hvn := hper.1 _ (List.mem_of_getElem? hv)
  have hvk : (os.map Int.toNat)[l]? = some v := by rw [List.getElem?_map, hv]; rfl
  have hnot : v ∉ (os.map Int.toNat).take l := fun hm => by
    obtain ⟨j, hj⟩ := List.getElem?_of_mem hm
    have hjl : j < l := by
      have := lt_of_get hj
      rw [List.length_take] at this
      omega
    rw [List.getElem?_take_of_lt hjl] at hj
    have := (List.getElem?_inj (lt_of_get hj) hnd).1 (hj.trans hvk.symm)
    omega
  have hE : lvE xs (abv ((os.map Int.toNat).take l)) v = 0 := by
    unfold lvE
    rw [hfm, if_pos rfl, hlv, if_neg, Int.toNat_natCast, abv_bit, if_neg (by simpa using hnot)]
    rintro (h | h | h)
    · omega
    · omega
    · exact h (Nat.div_eq_of_lt (abv_lt hlt))
  refine ⟨hE, ?_⟩
  unfold lvC
  rw [if_pos hE, hlv, Int.toNat_natCast]
  exact cnt_abv (uniq_nodup _) (hnd.sublist (List.take_sublist _ _)) hlt
end Go.Proofs.Ytakepdkokjecoaa


/- Shape: Pairs. -/
namespace Go.Proofs.Ytakepdkokjecoaa
open Go.RowKit Go.Tk Go.Maps

def andB (s v : Nat) : Nat := s &&& (18446744073709551615 - 2 ^ v)
def pstep (v : Nat) (a : Nat) (t : Tb) : Nat := if (supN t.N t.ws).testBit v then a ||| andB (supN t.N t.ws) v else a
def prV (ts : List Tb) (v : Nat) : Nat := ts.foldl (pstep v) 0
theorem prV_snoc (ts : List Tb) (t : Tb) (v : Nat) : prV (ts ++ [t]) v = pstep v (prV ts v) t := by simp [prV]
def mixR (nn : Nat) (ts : List Tb) (t : Tb) (k : Nat) : List Nat := (List.range nn).map fun u => if u < k then prV (ts ++ [t]) u else prV ts u
def prRow (nn : Nat) (ts : List Tb) : List Nat := (List.range nn).map (prV ts)
theorem mixR_len (nn : Nat) (ts : List Tb) (t : Tb) (k : Nat) : (mixR nn ts t k).length = nn := by simp [mixR]
theorem prRow_len (nn : Nat) (ts : List Tb) : (prRow nn ts).length = nn := by simp [prRow]
theorem mixR_zero (nn : Nat) (ts : List Tb) (t : Tb) : mixR nn ts t 0 = prRow nn ts := by simp [mixR, prRow]
theorem mixR_all (nn : Nat) (ts : List Tb) (t : Tb) : mixR nn ts t nn = prRow nn (ts ++ [t]) := by
  unfold mixR prRow
  exact List.map_congr_left fun u hu => if_pos (List.mem_range.1 hu)
theorem prRow_nil (nn : Nat) : prRow nn [] = List.replicate nn 0 := by
  apply List.ext_getElem?
  intro i
  rcases Nat.lt_or_ge i nn with h | h
  · simp [prRow, prV, h]
  · rw [List.getElem?_eq_none (by rw [prRow_len]; exact h), List.getElem?_eq_none (by simpa using h)]
theorem mixR_get {nn : Nat} {ts : List Tb} {t : Tb} {k : Nat} (h : k < nn) : (mixR nn ts t k)[k]? = some (prV ts k) := by simp [mixR, h]
theorem mixR_set {nn : Nat} {ts : List Tb} {t : Tb} {k : Nat} (h : k < nn) : (mixR nn ts t k).set k (prV (ts ++ [t]) k) = mixR nn ts t (k + 1) := by
  apply List.ext_getElem?
  intro i
  rcases Nat.lt_or_ge i nn with hi | hi
  · rw [List.getElem?_set, mixR_len]
    simp only [mixR, List.getElem?_map, List.getElem?_range hi, Option.map_some]
    by_cases he : k = i
    · subst he; simp [h]
    · rw [if_neg he]
      congr 1
      by_cases h1 : i < k
      · rw [if_pos h1, if_pos (by omega)]
      · rw [if_neg h1, if_neg (by omega)]
  · rw [List.getElem?_eq_none (by simp [mixR_len, hi]), List.getElem?_eq_none (by rw [mixR_len]; exact hi)]
theorem mixR_skip {nn : Nat} {ts : List Tb} {t : Tb} {k : Nat} (h : (supN t.N t.ws).testBit k = false) : mixR nn ts t k = mixR nn ts t (k + 1) := by
  unfold mixR
  refine List.map_congr_left fun u _ => ?_
  by_cases h1 : u < k
  · rw [if_pos h1, if_pos (by omega)]
  · rw [if_neg h1]
    by_cases h2 : u < k + 1
    · obtain rfl : u = k := by omega
      rw [if_pos h2, prV_snoc, pstep, h]
      rfl
    · rw [if_neg h2]
theorem supN_lt (N : Int) (ws : List Nat) : supN N ws < 65536 := by
  unfold supN
  split
  · rename_i h
    have := frm_16 h
    exact Nat.lt_of_lt_of_le (bsum_lt _ _) (Nat.pow_le_pow_right (n := 2) (by omega) this)
  · omega
theorem andB_lt {s : Nat} (h : s < 65536) (v : Nat) : andB s v < 65536 := Nat.lt_of_le_of_lt Nat.and_le_left h
theorem pstep_lt {v a : Nat} (t : Tb) (h : a < 65536) : pstep v a t < 65536 := by
  unfold pstep
  split
  · exact Nat.or_lt_two_pow (n := 16) h (andB_lt (supN_lt _ _) v)
  · exact h
theorem prV_lt (v : Nat) : ∀ (ts : List Tb) (a : Nat), a < 65536 → ts.foldl (pstep v) a < 65536
  | [], _, h => h
  | t :: ts, _, h => prV_lt v ts _ (pstep_lt t h)
theorem andB_int {a s v : Nat} (ha : a < 65536) (hs : s < 65536) (hv : v < 16) : bits .or .u64 (a : Int) (bits .andNot .u64 (s : Int) (IntKind.u64.wrap (2 ^ v))) = ((a ||| andB s v : Nat) : Int) := by
  have h1 : (2 : Nat) ^ v ≤ 2 ^ 16 := Nat.pow_le_pow_right (by omega) (by omega)
  have h2 : (2 : Int) ^ v = ((2 ^ v : Nat) : Int) := by rw [Int.natCast_pow]; rfl
  have h3 := andB_lt hs v
  unfold andB at *
  rw [h2]
  generalize 2 ^ v = pw at *
  rw [IntWalk.u64_in _ (by omega), u64_andNot_nat s pw (by omega) (by omega)]
  exact u64_or_nat a _ (by omega) (by omega)
def paE (xs : List Tb) : Int := if fm xs then 0 else 5
def paR (xs : List Tb) : List Nat := if fm xs = true ∧ xs ≠ [] then prRow (tN0 xs).toNat xs else []
set_option maxRecDepth 100000 in
set_option maxHeartbeats 16000000 in
theorem pairs_any (AL : Option Addr) (n C : Nat) (xs : List Tb) (w : World) (h : Sl w 2 Tb.cells AL n xs) (hok : ∀ t ∈ xs, TbOk w t) (hn : n ≤ 8796093022210) :
    Calls Try.prog 17 #[.slice AL n C] w fun e w' => ∃ A D, e = .returned (.tuple #[.slice A (paR xs).length D, .int .i64 (paE xs)]) ∧ NewT w (paR xs) A D w' := by
  have H := Lib.hid h
  have HOK := Lib.hid hok
  have HXL := Lib.hid h.len
  clear h hok
  obtain ⟨r, hr⟩ : ∃ r, fm xs = r := ⟨_, rfl⟩
  go_enter Try.func17, Try.ntmps17
  go_wp2_with (fail)
  refine (scheck_any AL n C xs w H.out (by omega) HOK.out).mono ?_
  rintro e w1 ⟨rfl, hs⟩
  rw [hr]
  have HS := Lib.hid hs
  clear hs
  cases r with
  | false =>
    have HE := Lib.hid (show paE xs = 5 by unfold paE; rw [hr]; rfl)
    have HR := Lib.hid (show paR xs = [] by unfold paR; rw [if_neg (by rw [hr]; simp)])
    clear hr
    go_wp2
    go_ret2
    exact ⟨none, 0, by rw [HE.out, HR.out]; rfl, by rw [HR.out]; exact NewT.nil HS.out⟩
  | true =>
    have HFM := Lib.hid hr
    have HE := Lib.hid (show paE xs = 0 by unfold paE; rw [hr]; rfl)
    clear hr
    by_cases hn0 : n = 0
    · have hx0 : xs = [] := List.eq_nil_of_length_eq_zero (by rw [← HXL.out]; exact hn0)
      have hnz : ((n : Int) == 0) = true := by rw [hn0]; rfl
      have HR := Lib.hid (show paR xs = [] by unfold paR; rw [if_neg (by simp [hx0])])
      clear hx0 hn0
      go_wp2
      go_ret2
      exact ⟨none, 0, by rw [HE.out, HR.out]; rfl, by rw [HR.out]; exact NewT.nil HS.out⟩
    · have hnz : ((n : Int) == 0) = false := by rw [beq_eq_false_iff_ne]; omega
      have hnp : (0 : Int) < n := by omega
      obtain ⟨t0, ht0⟩ : ∃ t, xs[0]? = some t := ⟨_, List.getElem?_eq_getElem (by rw [← HXL.out]; omega)⟩
      have hd0 : tN0 xs = t0.N := by unfold tN0; rw [List.getD_eq_getElem?_getD, ht0]; rfl
      obtain ⟨bl, o, hA, hbl, hc⟩ := (Sl.same H.out HS.out).get 0 t0 ht0
      have c0 : w1.cell? ⟨bl, o, none⟩ = some (.int .i64 t0.N) := by simpa [Tb.cells] using hc 0 (by omega)
      subst hA
      have hfr := (fm_all HFM.out t0 (List.mem_of_getElem? ht0)).1
      obtain ⟨nn, hnn, hfn⟩ := frm_true hfr
      have hn16 : nn ≤ 16 := hfn.n16
      have HR := Lib.hid (show paR xs = prRow nn xs by
        unfold paR
        rw [if_pos ⟨HFM.out, by rintro rfl; cases ht0⟩, hd0, hnn]
        rfl)
      rw [hnn] at c0
      have hmk := fun w => run_make_n (P := Try.prog) Try.underlying35 info_u64 .i64 .i64 nn (show 8 * nn ≤ 281474976710656 by omega) (show nn ≤ 9223372036854775807 by omega) w
      clear hc ht0 hd0 hnn hfr hfn hn0
      go_upto_region 6 with fail
      refine wp_world fun w2 hw => ?_
      have hs2 : Same w1 w2 := by rw [hw]; exact (Frm.refl _ _).alloc _
      have hO := Own.ofMade (m := 1) w1 30 ucell (fun _ => rfl) (by decide) 0 nn (show nn ≤ 9223372036854775807 by omega) rfl
      have hw2 : w2 = w1.alloc (.cells (madeCells (ucell 0).toArray (nn * 1)) 30) := by rw [hw]; simp [ucell]
      rw [← hw2] at hO
      have hgw : w.heap.size ≤ w1.heap.size := HS.out.size
      obtain ⟨G, hG⟩ : ∃ z, z = w1.heap.size := ⟨_, rfl⟩
      rw [← hG] at hO hgw ⊢
      have HS2 := Lib.hid (HS.out.trans hs2 (fun _ _ h => h))
      have HO := Lib.hid hO
      clear hw hw2 hG hs2 hO hmk c0 hbl HS
      go_wp2
      go_loopw [23] (fun i wi => ∃ k : Nat, k ≤ n ∧ i = .int .i64 k ∧ Same w wi ∧ OwnW wi (some ⟨G, 0, none⟩) nn nn (prRow nn (xs.take k))) (fun i _ => n - (intOf i).toNat)
      case atStart => exact ⟨0, by omega, rfl, HS2.out, by rw [List.take_zero, prRow_nil]; exact HO.out⟩
      case round =>
        obtain ⟨k, hk, rfl, hs, ho⟩ := hrel
        clear HS2 HO
        by_cases hlt : k < n
        · obtain ⟨t, ht⟩ : ∃ t, xs[k]? = some t := ⟨_, List.getElem?_eq_getElem (by rw [← HXL.out]; exact hlt)⟩
          obtain ⟨b', o', hA', hbl, hc⟩ := (Sl.same H.out hs).get k t ht
          injection hA' with hA'
          injection hA' with hA1 hA2
          subst hA1 hA2
          have c0 : wr.cell? ⟨bl, o + k * 2, none⟩ = some (.int .i64 t.N) := hc 0 (by omega)
          have c1 : wr.cell? ⟨bl, o + k * 2 + 1, none⟩ = some (.slice t.A t.ws.length t.C) := hc 1 (by omega)
          have HTK := Lib.hid (show xs.take (k + 1) = xs.take k ++ [t] by rw [List.take_add_one, ht]; rfl)
          have HTO := Lib.hid ((HOK.out t (List.mem_of_getElem? ht)).same hs)
          have HFR := Lib.hid (fm_all HFM.out t (List.mem_of_getElem? ht)).1
          have hk0 : (0 : Int) ≤ k := by omega
          have hk1 : (k : Int) < n := by omega
          have HS := Lib.hid hs
          have HO := Lib.hid ho
          clear hc ht hs ho
          obtain ⟨tN, tA, tC, tw⟩ := t
          simp only at c0 c1
          go_upto_region 9 with fail
          refine wp_world fun w3 hw => ?_
          have hs3 : Same wr w3 := by rw [hw]; exact (Frm.refl _ _).alloc _
          have hBX : Blk w3 wr.heap.size 37 #[.int .i64 tN, .slice tA tw.length tC] := by rw [hw]; exact Blk.new _ _ _
          obtain ⟨X, hX⟩ : ∃ z, z = wr.heap.size := ⟨_, rfl⟩
          rw [← hX] at hBX ⊢
          have cX0 : w3.cell? ⟨X, 0, none⟩ = some (.int .i64 tN) := hBX.cell 0
          have cX1 : w3.cell? ⟨X, 1, none⟩ = some (.slice tA tw.length tC) := hBX.cell 1
          have lX := hBX.lt
          replace HS := Lib.hid (HS.out.trans hs3 (fun _ _ h => h))
          replace HO := Lib.hid (Own.frm HO.out hs3 (fun _ _ => id))
          replace HTO := Lib.hid (HTO.out.same hs3)
          clear hw hX hBX hs3 c0 c1 hbl
          go_wp2_with (fail)
          refine (Support_any tN tA tC tw w3 HTO.out).mono ?_
          rintro e w4 ⟨rfl, hs⟩
          replace HS := Lib.hid (HS.out.trans hs (fun _ _ h => h))
          replace HO := Lib.hid (Own.frm HO.out hs (fun _ _ => id))
          clear hs cX0 cX1 lX HTO
          obtain ⟨s, hsd⟩ : ∃ z, z = supN tN tw := ⟨_, rfl⟩
          have HSD := Lib.hid hsd
          have hs16 : s < 65536 := by rw [hsd]; exact supN_lt _ _
          rw [← hsd]
          clear hsd
          go_wp2
          obtain ⟨wo, rfl⟩ : ∃ z, z = w4 := ⟨_, rfl⟩
          obtain ⟨ts, hts⟩ : ∃ z, z = xs.take k := ⟨_, rfl⟩
          rw [← hts] at HO HTK
          clear hts
          go_loopw [34] (fun i wi => ∃ v : Nat, v ≤ nn ∧ i = .int .i64 v ∧ Same w wi ∧ OwnW wi (some ⟨G, 0, none⟩) nn nn (mixR nn ts ⟨tN, tA, tC, tw⟩ v)) (fun i _ => nn - (intOf i).toNat)
          case atStart => exact ⟨0, by omega, rfl, HS.out, by rw [mixR_zero]; exact HO.out⟩
          case round =>
            clear HS HO
            obtain ⟨v, hv, rfl, hs, ho⟩ := hrel
            by_cases hlv : v < nn
            · have hv0 : (0 : Int) ≤ v := by omega
              have hv1 : (v : Int) < nn := by omega
              by_cases hbt : s.testBit v = true
              · have hbi : (bits .and .u64 ((s : Int) / 2 ^ v) 1 == 1) = true := by rw [sbit_int (by omega)]; exact hbt
                obtain ⟨s0, h0, hgl, cc⟩ := Own.at1 (c := fun x : Nat => .int .u64 (x : Int)) ho (mixR_get hlv)
                injection h0 with h0
                injection h0 with h0
                subst h0
                have fz := Own.free ho v
                obtain ⟨a, ha⟩ : ∃ z, z = prV ts v := ⟨_, rfl⟩
                have ha16 : a < 65536 := by rw [ha]; exact prV_lt v ts 0 (by omega)
                have hai := andB_int (v := v) ha16 hs16 (by omega)
                have hst : prV (ts ++ [⟨tN, tA, tC, tw⟩]) v = a ||| andB s v := by
                  rw [prV_snoc, pstep, ← HSD.out, if_pos hbt, ← ha]
                have HP := Lib.hid (Own.put1 (c := fun x : Nat => .int .u64 (x : Int)) ho (i := v) (by rw [mixR_len]; exact hlv) (prV (ts ++ [⟨tN, tA, tC, tw⟩]) v))
                rw [mixR_set hlv, hst] at HP
                rw [← ha] at cc
                have HSV := Lib.hid (hs.setNew v (.int .u64 ((a ||| andB s v : Nat) : Int)) hgw)
                clear ha hst hs ho hbt ha16
                go_upto_region 14 with fail
                go_region
                have HO2 := Lib.hid (Own.frm HP.out ((Frm.refl (fun _ => False) _).drew) (fun _ _ => id))
                have HS2 := Lib.hid HSV.out.drew
                clear HP HSV
                generalize (wr.setCell ⟨G, v, none⟩ (.int .u64 ((a ||| andB s v : Nat) : Int))).drew = wz at HO2 HS2 ⊢
                go_wp2
                go_roundw
                case rel => exact ⟨v + 1, by omega, by go_num, HS2.out, HO2.out⟩
                case measure => simp [intOf] <;> omega
              · have hbi : (bits .and .u64 ((s : Int) / 2 ^ v) 1 == 1) = false := by rw [sbit_int (by omega)]; simpa using hbt
                have hbf : (supN tN tw).testBit v = false := by rw [← HSD.out]; simpa using hbt
                have HO := Lib.hid (show OwnW wr (some ⟨G, 0, none⟩) nn nn (mixR nn ts ⟨tN, tA, tC, tw⟩ (v + 1)) by rw [← mixR_skip hbf]; exact ho)
                have HS := Lib.hid hs
                clear hbf hbt hs ho
                go_wp2
                go_roundw
                case rel => exact ⟨v + 1, by omega, by go_num, HS.out, HO.out⟩
                case measure => simp [intOf] <;> omega
            · obtain rfl : v = nn := by omega
              have HO := Lib.hid (show OwnW wr (some ⟨G, 0, none⟩) v v (prRow v (xs.take (k + 1))) by rw [HTK.out, ← mixR_all]; exact ho)
              have HS := Lib.hid hs
              clear hs ho
              go_wp2
              go_roundw
              case rel => exact ⟨k + 1, by omega, by go_num, HS.out, HO.out⟩
              case measure => simp [intOf] <;> omega
        · obtain rfl : k = n := by omega
          rw [List.take_of_length_le (by rw [← HXL.out]; exact Nat.le_refl _)] at ho
          have HO := Lib.hid ho
          have HS := Lib.hid hs
          clear ho hs
          go_wp2
          go_ret2
          exact ⟨some ⟨G, 0, none⟩, nn, by rw [HE.out, HR.out, prRow_len]; rfl, by rw [HR.out, NewT, prRow_len]; exact ⟨HO.out, fresh_some hgw, HS.out⟩⟩
end Go.Proofs.Ytakepdkokjecoaa


/- Permutations: Swapped of the program; Turned and DocSwapped of the reference. -/
namespace Go.Proofs.Ytakepdkokjecoaa
open Go.RowKit Go.Tk

theorem swp_get (p : List Int) (l : Nat) {a b : Int} (ha : p[l]? = some a) (hb : p[l + 1]? = some b) : swp p l = (p.set l b).set (l + 1) a := by
  unfold swp
  simp [List.getD_eq_getElem?_getD, ha, hb]
/-- what Swapped answers -/
def swE (p : List Int) (l : Int) : Int := if l < 0 ∨ (p.length : Int) - 2 < l then 1 else chk p
def swL (p : List Int) (l : Int) : List Int := if swE p l = 0 then swp p l.toNat else []

set_option maxHeartbeats 2000000 in
theorem turned_any (A : Option Addr) (n C : Nat) (xs : List Int) (l : Nat) (w : World) (h : IL w A n xs) (hr : n * 8 ≤ 140737488351232) (hl : l + 2 ≤ n) :
    Calls Try.prog 21 #[.slice A n C, .int .i64 l] w (RetL w (swp xs l)) := by
  obtain rfl := h.len
  have H := Lib.hid h
  clear h
  go_enter Try.func21, Try.ntmps21
  go_upto_region 2 with fail
  refine wp_read 2 ?_
  simp only [List.take_succ_cons, List.take_zero, List.drop_succ_cons, List.drop_zero]
  repeat (any_goals (first | go_big_quiet_step (fail) | quiet_step (fail)))
  refine wpQuiet_nil ?_
  refine wpList_plain rfl fun K hK => ?_
  refine Own.append_many (.tmp 6) (.tmp 7) _ rfl Try.underlying23 info_int rfl (by omega) rfl (Own.nil w _ _ _) (fun _ => rfl) xs A C rfl (fun hne => IL.src H.out hne) (by simp [icell, Value.oneCell']) (by simp [maxLen] <;> omega) (by simp <;> omega) ?_
  intro A2 C2 w2 hO hg hat
  refine hK _ _ ?_
  clear hK K
  simp only [List.nil_append] at hO ⊢
  have hs12 := Same.app (Frm.refl _ w) (Frm.refl _ _) hg (fresh_none _)
  obtain ⟨a, ha⟩ : ∃ a, xs[l]? = some a := ⟨_, List.getElem?_eq_getElem (by omega)⟩
  obtain ⟨b, hb⟩ : ∃ b, xs[l + 1]? = some b := ⟨_, List.getElem?_eq_getElem (by omega)⟩
  obtain ⟨sb, rfl, hsb, ca⟩ := hO.at1 (c := fun x => .int .i64 x) ha
  obtain ⟨sb', hsb', _, cb⟩ := hO.at1 (c := fun x => .int .i64 x) hb
  injection hsb' with hsb'
  injection hsb' with hsb'
  subst hsb'
  have fa := Own.free hO l
  have fb := Own.free hO (l + 1)
  have hsb0 : w.heap.size ≤ sb := by
    rcases hat sb ⟨_, rfl, rfl⟩ with ⟨a, h, _⟩ | h
    · cases h
    · omega
  have HO := Lib.hid hO
  have HS := Lib.hid hs12
  have HA := Lib.hid ha
  have HB := Lib.hid hb
  clear hO hs12 ha hb hg hat
  have hw0 : IntKind.i64.wrap ((l : Int) + 1) = l + 1 := IntWalk.i64_in _ (by omega)
  have hw1 : (0 : Int) ≤ (l : Int) + 1 := by omega
  have hw2 : ((l : Int) + 1).toNat = l + 1 := by omega
  have hw3 : (l : Int) + 1 < xs.length := by omega
  have hw4 : (l : Int) < xs.length := by omega
  have hw5 : (0 : Int) ≤ (l : Int) := by omega
  go_upto_region 3 with fail
  go_region
  have h1 := Own.put1 (c := fun x => .int .i64 x) HO.out (i := l) (by omega) b
  have h2 := Own.put1 (c := fun x => .int .i64 x) h1 (i := l + 1) (by rw [List.length_set]; omega) a
  rw [← swp_get xs l HA.out HB.out] at h2
  have h3 : OwnI ((w2.setCell ⟨sb, l, none⟩ (.int .i64 b)).setCell ⟨sb, l + 1, none⟩ (.int .i64 a)).drew 3 (some ⟨sb, 0, none⟩) xs.length C2 (swp xs l) := Own.frm h2 ((Frm.refl (fun _ => False) _).drew) (fun _ _ => id)
  have hs3 : Same w ((w2.setCell ⟨sb, l, none⟩ (.int .i64 b)).setCell ⟨sb, l + 1, none⟩ (.int .i64 a)).drew := ((HS.out.setNew _ _ hsb0).setNew _ _ hsb0).drew
  generalize ((w2.setCell ⟨sb, l, none⟩ (.int .i64 b)).setCell ⟨sb, l + 1, none⟩ (.int .i64 a)).drew = w3 at h3 hs3 ⊢
  have HO3 := Lib.hid h3
  have HS3 := Lib.hid hs3
  clear h1 h2 h3 hs3 ca cb fa fb hw0 hw1 hw2 hw3 hw4 hw5
  go_wp2
  go_ret
  exact ⟨some ⟨sb, 0, none⟩, C2, by rw [swp_len]; rfl, by rw [swp_len]; exact HO3.out, fresh_some hsb0, HS3.out⟩
end Go.Proofs.Ytakepdkokjecoaa


/- Permutations: Identity, Inverse, Compose, Changes of both. -/
namespace Go.Proofs.Ytakepdkokjecoaa
open Go.RowKit Go.Tk

/-- f at the first k places, noughts behind them -/
def fillL (f : Nat → Int) (n k : Nat) : List Int := (List.range n).map fun j : Nat => if j < k then f j else 0
theorem fillL_len (f : Nat → Int) (n k : Nat) : (fillL f n k).length = n := by simp [fillL]
theorem fillL_zero (f : Nat → Int) (n : Nat) : fillL f n 0 = List.replicate n 0 := by
  apply List.ext_getElem?
  intro j
  rcases Nat.lt_or_ge j n with h | h
  · simp [fillL, h]
  · rw [List.getElem?_eq_none (by rw [fillL_len]; exact h), List.getElem?_eq_none (by simpa using h)]
theorem fillL_full (f : Nat → Int) {n : Nat} {ys : List Int} (hl : ys.length = n) (h : ∀ j, j < n → ys[j]? = some (f j)) : fillL f n n = ys := by
  apply List.ext_getElem?
  intro j
  rcases Nat.lt_or_ge j n with hj | hj
  · rw [h j hj]; simp [fillL, hj]
  · rw [List.getElem?_eq_none (by rw [fillL_len]; exact hj), List.getElem?_eq_none (by omega)]
theorem fillL_set (f : Nat → Int) {n k : Nat} : (fillL f n k).set k (f k) = fillL f n (k + 1) := by
  apply List.ext_getElem?
  intro j
  rcases Nat.lt_or_ge j n with hj | hj
  · rw [List.getElem?_set, fillL_len]
    simp only [fillL, List.getElem?_map, List.getElem?_range hj, Option.map_some]
    split
    · rename_i he; subst he; simp <;> omega
    · rename_i he
      congr 1
      by_cases h : j < k
      · rw [if_pos h, if_pos (by omega)]
      · rw [if_neg h, if_neg (by omega)]
  · rw [List.getElem?_eq_none (by simp [fillL_len, hj]), List.getElem?_eq_none (by rw [fillL_len]; exact hj)]
/-- the places of the first k things -/
def invP (p : List Int) (k : Nat) : List Int := (List.range p.length).map fun j : Nat => if (j : Int) ∈ p.take k then plc p j else 0
theorem invP_len (p : List Int) (k : Nat) : (invP p k).length = p.length := by simp [invP]
theorem invP_zero (p : List Int) : invP p 0 = List.replicate p.length 0 := by
  apply List.ext_getElem?
  intro j
  rcases Nat.lt_or_ge j p.length with h | h
  · simp [invP, h]
  · rw [List.getElem?_eq_none (by rw [invP_len]; exact h), List.getElem?_eq_none (by simpa using h)]
theorem invL_get (p : List Int) {j : Nat} (h : j < p.length) : (invL p)[j]? = some (plc p j) := by simp [invL, rng_get h]
theorem invP_full {p : List Int} (h : IsPerm p) : invP p p.length = invL p := by
  apply List.ext_getElem?
  intro j
  rcases Nat.lt_or_ge j p.length with hj | hj
  · rw [invL_get p hj]
    simp [invP, hj, h.mem hj]
  · rw [List.getElem?_eq_none (by rw [invP_len]; exact hj), List.getElem?_eq_none (by rw [invL_len]; exact hj)]
theorem invP_set {p : List Int} (hn : p.Nodup) {k x : Nat} (h : p[k]? = some (x : Int)) : (invP p k).set x (k : Int) = invP p (k + 1) := by
  apply List.ext_getElem?
  intro j
  rcases Nat.lt_or_ge j p.length with hj | hj
  · rw [List.getElem?_set, invP_len]
    simp only [invP, List.getElem?_map, List.getElem?_range hj, Option.map_some, take_snoc h, List.mem_append, List.mem_singleton]
    split
    · rename_i he; subst he; simp [plc_get hn h] <;> omega
    · rename_i he
      have : ¬ ((j : Int) = (x : Int)) := by omega
      simp [this]
  · rw [List.getElem?_eq_none (by simp [invP_len, hj]), List.getElem?_eq_none (by rw [invP_len]; exact hj)]

def inE (p : List Int) : Int := chk p
def inL (p : List Int) : List Int := if chk p = 0 then invL p else []
end Go.Proofs.Ytakepdkokjecoaa


/- Permutations: Inversions of both. -/
namespace Go.Proofs.Ytakepdkokjecoaa
open Go.RowKit Go.Tk

theorem invC_le (p : List Int) : invC p ≤ p.length * p.length := by
  induction p with
  | nil => simp [invC]
  | cons x p ih =>
    have := List.countP_le_length (p := fun y => decide (x > y)) (l := p)
    simp only [invC, List.length_cons]
    rw [Nat.add_mul, Nat.mul_add]
    omega
theorem invC_le64 {p : List Int} (h : p.length ≤ 64) : invC p ≤ 4096 := Nat.le_trans (invC_le p) (Nat.mul_le_mul h h)
def incN (xs : List Int) : Nat := if chk xs = 0 then invC xs else 0
theorem countP_snoc {α : Type} (f : α → Bool) (l : List α) (x : α) : (l ++ [x]).countP f = l.countP f + if f x then 1 else 0 := by
  rw [List.countP_append, List.countP_cons, List.countP_nil, Nat.zero_add]

theorem drop_cons {α : Type} {l : List α} {k : Nat} {x : α} (h : l[k]? = some x) : l.drop k = x :: l.drop (k + 1) := by
  have hl := lt_of_get h
  rw [List.getElem?_eq_getElem hl] at h
  injection h with h
  rw [List.drop_eq_getElem_cons hl, h]
end Go.Proofs.Ytakepdkokjecoaa


/- Permutations: Compose, Identity, Changes of both. -/
namespace Go.Proofs.Ytakepdkokjecoaa
open Go.RowKit Go.Tk

theorem compL_len (p q : List Int) : (compL p q).length = q.length := by simp [compL]
theorem compL_get (p q : List Int) {j : Nat} {x : Int} (h : q[j]? = some x) : (compL p q)[j]? = some (p.getD x.toNat 0) := by simp [compL, h]
def coL (p q : List Int) : List Int := if both p q = 0 then compL p q else []
end Go.Proofs.Ytakepdkokjecoaa


/- Permutations: Identity, Changes of both. -/
namespace Go.Proofs.Ytakepdkokjecoaa
open Go.RowKit Go.Tk

/-- what Identity answers -/
def idE (n : Int) : Int := if n < 0 ∨ 64 < n then 1 else 0
def idR (n : Int) : List Int := if n < 0 ∨ 64 < n then [] else rng n.toNat
set_option maxHeartbeats 1000000 in
theorem docIdentity_any (n : Int) (w : World) : Calls Try.prog 24 #[.int .i64 n] w (RetE w (idR n) (idE n)) := by
  by_cases h0 : n < 0
  · have he : idE n = 1 := by unfold idE; rw [if_pos (.inl h0)]
    have hy : idR n = [] := by unfold idR; rw [if_pos (.inl h0)]
    rw [he, hy]
    clear he hy
    go_enter Try.func24, Try.ntmps24
    go_wp2
    go_ret2
    exact ⟨none, 0, rfl, NewL.nil w⟩
  · by_cases h1 : n > 64
    · have he : idE n = 1 := by unfold idE; rw [if_pos (.inr h1)]
      have hy : idR n = [] := by unfold idR; rw [if_pos (.inr h1)]
      rw [he, hy]
      clear he hy
      go_enter Try.func24, Try.ntmps24
      go_wp2
      go_ret2
      exact ⟨none, 0, rfl, NewL.nil w⟩
    · have he : idE n = 0 := by unfold idE; rw [if_neg (by omega)]
      have hy : idR n = rng n.toNat := by unfold idR; rw [if_neg (by omega)]
      rw [he, hy]
      clear he hy
      obtain ⟨m, rfl⟩ : ∃ m : Nat, n = m := ⟨n.toNat, by omega⟩
      have hm : m ≤ 64 := by omega
      rw [show ((m : Nat) : Int).toNat = m from rfl]
      go_enter Try.func24, Try.ntmps24
      go_wp2
      go_loopw [4, 5] (fun s i wr => ∃ (k : Nat) (A2 : Option Addr) (C2 : Nat), k ≤ m ∧ i = .int .i64 k ∧ s = .slice A2 k C2 ∧ Same w wr ∧ Fresh w.heap.size A2 ∧ OwnI wr 3 A2 k C2 ((rng m).take k)) (fun _ i _ => m - (intOf i).toNat)
      case atStart => exact ⟨0, none, 0, by omega, rfl, rfl, Frm.refl _ _, fresh_none _, Own.nil _ _ _ _⟩
      case round =>
        obtain ⟨k, A2, C2, hk, rfl, rfl, hs, hf, ho⟩ := hrel
        have HR := Lib.hid ho
        have HF := Lib.hid hf
        have HS := Lib.hid hs
        have hlk : ((rng m).take k).length = k := by rw [List.length_take, rng_len]; omega
        have HLK := Lib.hid hlk
        clear hs ho hf hlk
        by_cases hlt : k < m
        · have hi1 : (k : Int) < m := by omega
          have hnx := take_snoc (rng_get hlt)
          have HNX := Lib.hid hnx
          clear hnx
          go_upto_region 7 with fail
          refine wp_read 2 ?_
          simp only [List.take_succ_cons, List.take_zero, List.drop_succ_cons, List.drop_zero]
          repeat (any_goals (first | go_big_quiet_step (fail) | quiet_step (fail)))
          refine wpQuiet_nil ?_
          refine wpList_plain rfl fun K hK => ?_
          go_simp
          refine hK _ _ ?_
          clear hK K
          refine list_world fun wa hwa => ?_
          have hN := Blk.new wr 3 #[.int .i64 (k : Int)]
          have hsa : Same wr wa := by rw [hwa]; exact (Frm.refl _ _).alloc _
          rw [← hwa] at hN
          clear hwa
          refine Own.append_list (f := icell) rfl (.tmp 17) (.tmp 19) _ rfl Try.underlying23 info_int rfl (by omega) rfl (Own.frm (HR.out) hsa (fun _ _ => id)) (fun _ => rfl) ((k : Int)) wr.heap.size 1 rfl hN (by simp [Value.oneCell', icell]) (by rw [HLK.out]; simp [maxLen] <;> omega) (by rw [HLK.out]; omega) ?_
          intro gg cap wb hOb hgb hat
          have HOb := Lib.hid hOb
          have HSb := Lib.hid (Same.app (HS.out) hsa hgb (HF.out))
          have HFb := Lib.hid (fresh_app (HS.out) hsa (HF.out) hat)
          clear hOb hgb hat hsa hN
          go_wp2
          go_roundw
          case rel => exact ⟨k + 1, _, cap, by omega, by go_num, rfl, HSb.out, HFb.out, by rw [HNX.out]; exact HOb.out⟩
          case measure => simp [intOf] <;> omega
        · obtain rfl : k = m := by omega
          go_wp2
          go_ret2
          refine ⟨A2, C2, by rw [rng_len]; rfl, ?_, HF.out, HS.out⟩
          have := HR.out
          rw [List.take_of_length_le (by rw [rng_len]; exact Nat.le_refl _)] at this
          rwa [rng_len]
/-- the exchanges that go through all orders -/
def chL (k : Int) : List Int := if k = 2 then [0] else if k = 3 then [1, 0, 1, 0, 1] else if k = 4 then [2, 1, 0, 2, 0, 1, 2, 0, 2, 1, 0, 2, 0, 1, 2, 0, 2, 1, 0, 2, 0, 1, 2] else []
def chE (k : Int) : Int := if k = 2 ∨ k = 3 ∨ k = 4 then 0 else 1
theorem lit_new (w : World) (ys : List Int) (hm : ys.length ≤ 1000) {cs : Array Value} (hcs : cs = (ys.flatMap icell).toArray) : NewL w ys (some ⟨w.heap.size, 0, none⟩) ys.length (w.alloc (.cells cs 3)) :=
  ⟨Own.lit w 3 icell (fun _ => rfl) ys (show ys.length ≤ 9223372036854775807 by omega) hcs, fresh_some (Nat.le_refl _), (Frm.refl _ _).alloc _⟩
end Go.Proofs.Ytakepdkokjecoaa


/- Permutations: Path of both. -/
namespace Go.Proofs.Ytakepdkokjecoaa
open Go.RowKit Go.Tk

theorem plc_lt (p : List Int) (x : Int) : plc p x < p.length := by
  unfold plc
  split <;> omega
theorem plc_ge (p : List Int) (x : Int) : -1 ≤ plc p x := by unfold plc; split <;> omega
theorem pst_path_le (p q : List Int) : ∀ k, (pst p q k).2.length ≤ k * p.length
  | 0 => by simp [pst]
  | k + 1 => by
    rw [pst, bub_path, Nat.add_mul, Nat.one_mul]
    have := pst_path_le p q k
    have h1 := plc_lt (pst p q k).1 (q.getD k 0)
    rw [pst_len] at h1
    omega
theorem pst_path64 {p q : List Int} {k : Nat} (h : p.length ≤ 64) (hk : k ≤ 64) : (pst p q k).2.length ≤ 4096 := Nat.le_trans (pst_path_le p q k) (Nat.mul_le_mul hk h)
def paL (p q : List Int) : List Int := if both p q = 0 then pathL p q else []

end Go.Proofs.Ytakepdkokjecoaa


/- Permutations: the reference's DocPath. -/
namespace Go.Tk
theorem Sl.frm {w w' : World} {S : Nat → Prop} {m : Nat} {α : Type} {f : α → List Value} {A : Option Addr} {n : Nat} {xs : List α} (h : Sl w m f A n xs) (hf : Frm S w w') (hs : 0 < xs.length → ∀ b, rowOf A b → ¬ S b) : Sl w' m f A n xs :=
  ⟨h.len, fun i x hi => by
    obtain ⟨b, off, h1, h2, h3⟩ := h.get i x hi
    have hl := lt_of_get hi
    exact ⟨b, off, h1, Nat.lt_of_lt_of_le h2 hf.size, fun j hj => by rw [← h3 j hj]; exact hf.cell (p := ⟨b, _, none⟩) h2 (hs (by omega) b ⟨_, h1, rfl⟩)⟩⟩
theorem Sl.row {w : World} {m : Nat} {α : Type} {f : α → List Value} {A : Option Addr} {n : Nat} {xs : List α} (h : Sl w m f A n xs) (h0 : 0 < xs.length) : ∀ b, rowOf A b → b < w.heap.size := by
  rintro b ⟨a, ha, rfl⟩
  obtain ⟨b, off, h1, h2, h3⟩ := h.get 0 _ (List.getElem?_eq_getElem h0)
  rw [h1] at ha
  injection ha with ha
  subst ha
  exact h2
end Go.Tk
namespace Go.Proofs.Ytakepdkokjecoaa
open Go.RowKit Go.Tk

end Go.Proofs.Ytakepdkokjecoaa


/- Permutations: Same of the reference; Rank of the program. -/
namespace Go.Proofs.Ytakepdkokjecoaa
open Go.RowKit Go.Tk

set_option maxHeartbeats 1000000 in
theorem same_any (A B : Option Addr) (n m C D : Nat) (xs ys : List Int) (w : World) (h : IL w A n xs) (h2 : IL w B m ys) (hr : n * 8 ≤ 140737488351232) (hr2 : m * 8 ≤ 140737488351232) :
    Calls Try.prog 16 #[.slice A n C, .slice B m D] w fun e w' => e = .returned (.bool (decide (xs = ys))) ∧ Same w w' := by
  obtain rfl := h.len
  obtain rfl := h2.len
  have H := Lib.hid h
  have H2 := Lib.hid h2
  clear h h2
  by_cases hl : xs.length = ys.length
  · have hl1 : xs.length ≤ ys.length := by omega
    have hl2 : ys.length ≤ xs.length := by omega
    have hl' : ((xs.length : Int) != (ys.length : Int)) = false := by simp [hl]
    have HL := Lib.hid hl
    clear hl
    go_enter Try.func16, Try.ntmps16
    go_wp2
    go_loopw [5] (fun i wr => ∃ k : Nat, k ≤ xs.length ∧ i = .int .i64 k ∧ xs.take k = ys.take k ∧ Same w wr) (fun i _ => xs.length - (intOf i).toNat)
    case atStart => exact ⟨0, by omega, rfl, rfl, Frm.refl _ _⟩
    case round =>
      obtain ⟨k, hk, rfl, he, hs⟩ := hrel
      by_cases hlt : k < xs.length
      · obtain ⟨x, hx⟩ : ∃ x, xs[k]? = some x := ⟨_, List.getElem?_eq_getElem hlt⟩
        obtain ⟨y, hy⟩ : ∃ y, ys[k]? = some y := ⟨_, List.getElem?_eq_getElem (by omega)⟩
        obtain ⟨b, off, rfl, hb, hc⟩ := (Sl.same H.out hs).at1 hx
        obtain ⟨b2, off2, rfl, hb2, hc2⟩ := (Sl.same H2.out hs).at1 hy
        have hi0 : (0 : Int) ≤ k := by omega
        have hi1 : (k : Int) < xs.length := by omega
        have hi2 : (k : Int) < ys.length := by omega
        have HX := Lib.hid hx
        have HY := Lib.hid hy
        have HE := Lib.hid he
        have HS := Lib.hid hs
        clear hx hy he hs
        by_cases hxy : x = y
        · subst hxy
          go_wp2
          refine wp_quiet (by kernel_rfl) (by kernel_rfl) ?_
          repeat (any_goals (first | go_big_quiet_step (fail) | quiet_step (fail)))
          refine wpQuiet_nil ?_
          rintro _ ⟨q, rfl⟩
          have HS2 := Lib.hid (HS.out.trans (more_same _ q) (fun _ _ h => h))
          go_wp2
          go_roundw
          case rel => exact ⟨k + 1, by omega, by go_num, by rw [take_snoc HX.out, take_snoc HY.out, HE.out], HS2.out⟩
          case measure => simp [intOf] <;> omega
        · have hne : (x != y) = true := by simpa using hxy
          have hfin : decide (xs = ys) = false := by
            rw [decide_eq_false_iff_not]
            rintro rfl
            exact hxy (Option.some.inj (HX.out.symm.trans HY.out))
          have HFIN := Lib.hid hfin
          clear hxy hfin
          go_wp2
          refine wp_quiet (by kernel_rfl) (by kernel_rfl) ?_
          repeat (any_goals (first | go_big_quiet_step (fail) | quiet_step (fail)))
          refine wpQuiet_nil ?_
          rintro _ ⟨q, rfl⟩
          have HS2 := Lib.hid (HS.out.trans (more_same _ q) (fun _ _ h => h))
          go_wp2
          go_ret
          exact ⟨ret_bool HFIN.out.symm, HS2.out⟩
      · obtain rfl : k = xs.length := by omega
        have hfin : decide (xs = ys) = true := by
          rw [decide_eq_true_iff]
          rw [List.take_of_length_le (Nat.le_refl _), List.take_of_length_le (by omega)] at he
          exact he
        have HFIN := Lib.hid hfin
        clear he hfin
        go_wp2
        go_ret
        exact ⟨ret_bool HFIN.out.symm, hs⟩
  · have hl' : ((xs.length : Int) != (ys.length : Int)) = true := by simp <;> omega
    have hfin : decide (xs = ys) = false := by
      rw [decide_eq_false_iff_not]
      rintro rfl
      exact hl rfl
    have HFIN := Lib.hid hfin
    clear hl hfin
    go_enter Try.func16, Try.ntmps16
    go_wp2
    go_ret
    exact ⟨ret_bool HFIN.out.symm, Frm.refl _ _⟩

/-- how many less ones follow the i-th -/
def lessC (xs : List Int) (i : Nat) : Nat := (xs.drop (i + 1)).countP (fun y => decide (y < xs.getD i 0))
def rkS (xs : List Int) : Nat → Nat
  | 0 => 0
  | k + 1 => rkS xs k * (xs.length - k) + lessC xs k
def fact : Nat → Nat
  | 0 => 1
  | n + 1 => (n + 1) * fact n
/-- n (n-1) .. (n-k+1) -/
def dsc (n : Nat) : Nat → Nat
  | 0 => 1
  | k + 1 => dsc n k * (n - k)
theorem fact_pos : ∀ n, 0 < fact n
  | 0 => by decide
  | n + 1 => by unfold fact; exact Nat.mul_pos (by omega) (fact_pos n)
theorem dsc_fact (n : Nat) : ∀ k, k ≤ n → dsc n k * fact (n - k) = fact n
  | 0, _ => by simp [dsc]
  | k + 1, h => by
    have ih := dsc_fact n k (by omega)
    rw [show n - k = (n - (k + 1)) + 1 by omega, fact] at ih
    rw [dsc, Nat.mul_assoc, show n - k = n - (k + 1) + 1 by omega]
    exact ih
theorem fact_le20 {n : Nat} (h : n ≤ 20) : fact n ≤ 2432902008176640000 := by
  have : ∀ n, n ≤ 20 → fact n ≤ 2432902008176640000 := by decide
  exact this n h
theorem dsc_le {n k : Nat} (h : n ≤ 20) (hk : k ≤ n) : dsc n k ≤ 2432902008176640000 := by
  have h1 := dsc_fact n k hk
  have h2 := Nat.le_mul_of_pos_right (dsc n k) (fact_pos (n - k))
  have h3 := fact_le20 h
  omega
theorem lessC_lt (xs : List Int) {k : Nat} (h : k < xs.length) : lessC xs k + k < xs.length := by
  unfold lessC
  have := List.countP_le_length (p := fun y => decide (y < xs.getD k 0)) (l := xs.drop (k + 1))
  rw [List.length_drop] at this
  omega
theorem rkS_lt (xs : List Int) : ∀ k, k ≤ xs.length → rkS xs k < dsc xs.length k
  | 0, _ => by simp [rkS, dsc]
  | k + 1, h => by
    have ih := rkS_lt xs k (by omega)
    have hl := lessC_lt xs (show k < xs.length by omega)
    rw [rkS, dsc]
    have h1 : (rkS xs k + 1) * (xs.length - k) ≤ dsc xs.length k * (xs.length - k) := Nat.mul_le_mul_right _ ih
    rw [Nat.add_mul, Nat.one_mul] at h1
    omega
def rkE (xs : List Int) : Int := if chk xs = 4 then 4 else if 20 < xs.length then 6 else 0
def rkV (xs : List Int) : Nat := if rkE xs = 0 then rkS xs xs.length else 0
end Go.Proofs.Ytakepdkokjecoaa


/- Permutations: Same, by another name (for texts beside the tables' Same). -/
namespace Go.Proofs.Ytakepdkokjecoaa
open Go.RowKit Go.Tk
theorem psame_any (A B : Option Addr) (n m C D : Nat) (xs ys : List Int) (w : World) (h : IL w A n xs) (h2 : IL w B m ys) (hr : n * 8 ≤ 140737488351232) (hr2 : m * 8 ≤ 140737488351232) :
    Calls Try.prog 16 #[.slice A n C, .slice B m D] w fun e w' => e = .returned (.bool (decide (xs = ys))) ∧ Same w w' := same_any A B n m C D xs ys w h h2 hr hr2
end Go.Proofs.Ytakepdkokjecoaa


/- Shape: one, awake. -/
namespace Go.Proofs.Ytakepdkokjecoaa
open Go.RowKit Go.Tk Go.Maps

theorem aw_p8 (A : Option Addr) (C : Nat) : (prL [⟨2, A, C, [8]⟩] [0, 1]).sum = 2 := by kernel_rfl
theorem aw_e8 (A : Option Addr) (C : Nat) : prE [⟨2, A, C, [8]⟩] [0, 1] = 0 := by kernel_rfl
theorem aw_p6 (A : Option Addr) (C : Nat) : prL [⟨2, A, C, [6]⟩] [0, 1] = [1, 2] := by kernel_rfl
theorem aw_e6 (A : Option Addr) (C : Nat) : prE [⟨2, A, C, [6]⟩] [0, 1] = 0 := by kernel_rfl
theorem aw_l6 (A : Option Addr) (C : Nat) : lvC [⟨2, A, C, [6]⟩] 1 1 = 2 := by kernel_rfl
theorem aw_le (A : Option Addr) (C : Nat) : lvE [⟨2, A, C, [6]⟩] 1 1 = 0 := by kernel_rfl
set_option maxHeartbeats 4000000 in
theorem one_any (x : Nat) (w : World) : Calls Try.prog 22 #[.int .u64 x] w (RetT w 2 [x]) := by
  go_enter Try.func22, Try.ntmps22
  go_upto_region 1 with fail
  refine wp_world fun w1 hw1 => ?_
  have hs1 : Same w w1 := by rw [hw1]; exact (Frm.refl _ _).alloc _
  have hBR : Blk w1 w.heap.size 37 #[.int .i64 0, .slice none 0 0] := by rw [hw1]; exact Blk.new _ _ _
  obtain ⟨R, hR⟩ : ∃ z, z = w.heap.size := ⟨_, rfl⟩
  have hwR : w.heap.size ≤ R := Nat.le_of_eq hR.symm
  rw [← hR] at hBR ⊢
  have cR0 : w1.cell? ⟨R, 0, none⟩ = some (.int .i64 0) := hBR.cell 0
  have cR1 : w1.cell? ⟨R, 1, none⟩ = some (.slice none 0 0) := hBR.cell 1
  have lR := hBR.lt
  have fR0 := hBR.free 0
  have fR1 := hBR.free 1
  have HBR := Lib.hid hBR
  have HS1 := Lib.hid hs1
  clear hw1 hR hBR hs1
  go_wp2
  refine wp_post fun w2 hw2 => ?_
  obtain ⟨G, hG⟩ : ∃ z, z = w1.heap.size := ⟨_, rfl⟩
  rw [← hG] at hw2 ⊢
  have hGR : G ≠ R := by omega
  obtain ⟨wa, hwa⟩ : ∃ z, z = (w1.setCell ⟨R, 0, none⟩ (.int .i64 2)).setCell ⟨R, 1, none⟩ (.slice (some ⟨G, 0, none⟩) 1 1) := ⟨_, rfl⟩
  rw [← hwa] at hw2
  have hsz : wa.heap.size = G := by rw [hwa, hG]; simp
  have hBa : Blk wa R 37 #[.int .i64 2, .slice (some ⟨G, 0, none⟩) 1 1] := by
    rw [hwa]
    have := (HBR.out.set 0 (.int .i64 2)).set 1 (.slice (some ⟨G, 0, none⟩) 1 1)
    simpa using this
  have hSa : Same w wa := by rw [hwa]; exact (HS1.out.setNew 0 _ hwR).setNew 1 _ hwR
  have hOE := Own.lit wa 30 ucell (fun _ => rfl) [x] (by simp [maxLen]) (cs := #[.int .u64 (x : Int)]) rfl
  rw [← hw2, hsz] at hOE
  have hBE : Blk w2 R 37 #[.int .i64 2, .slice (some ⟨G, 0, none⟩) 1 1] := by rw [hw2]; exact hBa.alloc _
  have hSE : Same w w2 := by rw [hw2]; exact hSa.alloc _
  have hGw : w.heap.size ≤ G := by rw [hG]; exact HS1.out.size
  have hr0 : w2.cell? ⟨R, 0, none⟩ = some (.int .i64 2) := hBE.cell 0
  have hr1 : w2.cell? ⟨R, 1, none⟩ = some (.slice (some ⟨G, 0, none⟩) 1 1) := hBE.cell 1
  clear hw2 hBE hwa hBa hSa
  refine bodyPost_ret (v := .agg #[.int .i64 2, .slice (some ⟨G, 0, none⟩) 1 1]) (by simp [results, Try.results22, go_sem, hr0, hr1]) rfl ?_
  exact ⟨_, _, rfl, hOE, fresh_some hGw, hSE⟩
set_option maxRecDepth 100000 in
set_option maxHeartbeats 16000000 in
theorem sawake_any (w : World) : Calls Try.prog 10 #[] w fun e w' => e = .returned (.bool true) ∧ Same w w' := by
  go_enter Try.func10, Try.ntmps10
  go_wp2_with (fail)
  refine (one_any 8 w).mono ?_
  rintro e w1 ⟨A0, C0, rfl, hNT⟩
  have HS := Lib.hid hNT.2.2
  have HT := Lib.hid hNT.1
  clear hNT
  go_wp2_with (fail)
  refine call_world fun w2 hw => ?_
  have hsw : Same w1 w2 := by rw [hw]; exact ((Frm.refl _ _).alloc _).alloc _
  have hsl : Sl w2 2 Tb.cells (some ⟨w1.heap.size, 0, none⟩) 1 [⟨2, A0, C0, [8]⟩] := by
    have h := Own.lit w1 37 Tb.cells (m := 2) (fun _ => rfl) [⟨2, A0, C0, [8]⟩] (by simp [maxLen]) (cs := #[.int .i64 2, .slice A0 1 C0]) rfl
    rw [hw]
    exact Sl.same (h.sl (fun _ => rfl)) ((Frm.refl _ _).alloc _)
  have hil : IL w2 (some ⟨w1.heap.size + 1, 0, none⟩) 2 [0, 1] := by
    have h := Own.lit (w1.alloc (.cells #[.int .i64 2, .slice A0 1 C0] 37)) 3 icell (m := 1) (fun _ => rfl) [0, 1] (by simp [maxLen]) (cs := #[.int .i64 0, .int .i64 1]) rfl
    rw [hw]
    simpa using Own.il h
  have hok : ∀ t ∈ [(⟨2, A0, C0, [8]⟩ : Tb)], TbOk w2 t := fun t ht => by
    obtain rfl := List.mem_singleton.1 ht
    exact ⟨Sl.same (HT.out.sl ucell_len) hsw, fun z hz => by obtain rfl := List.mem_singleton.1 hz; decide⟩
  replace HS := Lib.hid (HS.out.trans hsw (fun _ _ h => h))
  clear hw hsw HT
  refine (size_any _ 1 _ _ _ 2 _ [0, 1] w2 hsl hok (by decide) hil (by decide)).mono ?_
  rintro e w3 ⟨rfl, hs⟩
  rw [aw_p8, aw_e8]
  replace HS := Lib.hid (HS.out.trans hs (fun _ _ h => h))
  clear hs hsl hil hok
  go_wp2_with (fail)
  refine (one_any 6 w3).mono ?_
  rintro e w4 ⟨A1, C1, rfl, hNT⟩
  replace HS := Lib.hid (HS.out.trans hNT.2.2 (fun _ _ h => h))
  have HT := Lib.hid hNT.1
  clear hNT
  go_wp2_with (fail)
  refine call_world fun w5 hw => ?_
  have hsw : Same w4 w5 := by rw [hw]; exact ((Frm.refl _ _).alloc _).alloc _
  have hsl : Sl w5 2 Tb.cells (some ⟨w4.heap.size, 0, none⟩) 1 [⟨2, A1, C1, [6]⟩] := by
    have h := Own.lit w4 37 Tb.cells (m := 2) (fun _ => rfl) [⟨2, A1, C1, [6]⟩] (by simp [maxLen]) (cs := #[.int .i64 2, .slice A1 1 C1]) rfl
    rw [hw]
    exact Sl.same (h.sl (fun _ => rfl)) ((Frm.refl _ _).alloc _)
  have hil : IL w5 (some ⟨w4.heap.size + 1, 0, none⟩) 2 [0, 1] := by
    have h := Own.lit (w4.alloc (.cells #[.int .i64 2, .slice A1 1 C1] 37)) 3 icell (m := 1) (fun _ => rfl) [0, 1] (by simp [maxLen]) (cs := #[.int .i64 0, .int .i64 1]) rfl
    rw [hw]
    simpa using Own.il h
  have hok : ∀ t ∈ [(⟨2, A1, C1, [6]⟩ : Tb)], TbOk w5 t := fun t ht => by
    obtain rfl := List.mem_singleton.1 ht
    exact ⟨Sl.same (HT.out.sl ucell_len) hsw, fun z hz => by obtain rfl := List.mem_singleton.1 hz; decide⟩
  replace HS := Lib.hid (HS.out.trans hsw (fun _ _ h => h))
  clear hw hsw HT
  refine (profile_any _ 1 _ _ _ 2 _ [0, 1] w5 hsl hok (by decide) hil (by decide)).mono ?_
  rw [aw_p6, aw_e6]
  rintro e w6 ⟨Ap, Cp, rfl, hNT⟩
  replace HS := Lib.hid (HS.out.trans hNT.2.2 (fun _ _ h => h))
  have HOP := Lib.hid hNT.1
  clear hNT hsl hil hok
  go_wp2_with (fail)
  refine (one_any 6 w6).mono ?_
  rintro e w7 ⟨A2, C2, rfl, hNT⟩
  replace HS := Lib.hid (HS.out.trans hNT.2.2 (fun _ _ h => h))
  replace HOP := Lib.hid (Own.frm HOP.out hNT.2.2 (fun _ _ => id))
  have HT := Lib.hid hNT.1
  clear hNT
  go_wp2_with (fail)
  refine call_world fun w8 hw => ?_
  have hsw : Same w7 w8 := by rw [hw]; exact (Frm.refl _ _).alloc _
  have hsl : Sl w8 2 Tb.cells (some ⟨w7.heap.size, 0, none⟩) 1 [⟨2, A2, C2, [6]⟩] := by
    have h := Own.lit w7 37 Tb.cells (m := 2) (fun _ => rfl) [⟨2, A2, C2, [6]⟩] (by simp [maxLen]) (cs := #[.int .i64 2, .slice A2 1 C2]) rfl
    rw [hw]
    exact h.sl (fun _ => rfl)
  have hok : ∀ t ∈ [(⟨2, A2, C2, [6]⟩ : Tb)], TbOk w8 t := fun t ht => by
    obtain rfl := List.mem_singleton.1 ht
    exact ⟨Sl.same (HT.out.sl ucell_len) hsw, fun z hz => by obtain rfl := List.mem_singleton.1 hz; decide⟩
  replace HS := Lib.hid (HS.out.trans hsw (fun _ _ h => h))
  replace HOP := Lib.hid (Own.frm HOP.out hsw (fun _ _ => id))
  clear hw hsw HT
  refine (level_any _ 1 _ _ 1 1 w8 hsl hok (by decide) (by decide)).mono ?_
  rw [aw_l6, aw_le]
  rintro e w9 ⟨rfl, hs⟩
  replace HS := Lib.hid (HS.out.trans hs (fun _ _ h => h))
  replace HOP := Lib.hid (Own.frm HOP.out hs (fun _ _ => id))
  clear hs hsl hok
  go_wp2_with (fail)
  refine call_world fun wa hw => ?_
  have hsw : Same w9 wa := by rw [hw]; exact (Frm.refl _ _).alloc _
  have hil : IL wa (some ⟨w9.heap.size, 0, none⟩) 2 [1, 2] := by
    have h := Own.lit w9 3 icell (m := 1) (fun _ => rfl) [1, 2] (by simp [maxLen]) (cs := #[.int .i64 1, .int .i64 2]) rfl
    rw [hw]
    exact Own.il h
  replace HS := Lib.hid (HS.out.trans hsw (fun _ _ h => h))
  refine (psame_any _ _ 2 2 _ _ [1, 2] [1, 2] wa (Own.il (Own.frm HOP.out hsw (fun _ _ => id))) hil (by decide) (by decide)).mono ?_
  rintro e wb ⟨rfl, hs⟩
  replace HS := Lib.hid (HS.out.trans hs (fun _ _ h => h))
  clear hw hsw hil hs
  rw [show decide (([1, 2] : List Int) = [1, 2]) = true from rfl]
  go_wp2
  go_ret
  exact ⟨rfl, HS.out⟩
end Go.Proofs.Ytakepdkokjecoaa


/- Shape: sets: are two lists of words alike? -/
namespace Go.Proofs.Ytakepdkokjecoaa
open Go.RowKit Go.Tk
set_option maxHeartbeats 1000000 in
theorem sets_any (A B : Option Addr) (n m C D : Nat) (xs ys : List Nat) (w : World) (h : WL w A n xs) (h2 : WL w B m ys) (hr : n * 8 ≤ 140737488351232) (hr2 : m * 8 ≤ 140737488351232) :
    Calls Try.prog 19 #[.slice A n C, .slice B m D] w fun e w' => e = .returned (.bool (decide (xs = ys))) ∧ Same w w' := by
  obtain rfl := h.len
  obtain rfl := h2.len
  have H := Lib.hid h
  have H2 := Lib.hid h2
  clear h h2
  by_cases hl : xs.length = ys.length
  · have hl1 : xs.length ≤ ys.length := by omega
    have hl2 : ys.length ≤ xs.length := by omega
    have hl' : ((xs.length : Int) != (ys.length : Int)) = false := by simp [hl]
    have HL := Lib.hid hl
    clear hl
    go_enter Try.func19, Try.ntmps19
    go_wp2
    go_loopw [5] (fun i wr => ∃ k : Nat, k ≤ xs.length ∧ i = .int .i64 k ∧ xs.take k = ys.take k ∧ Same w wr) (fun i _ => xs.length - (intOf i).toNat)
    case atStart => exact ⟨0, by omega, rfl, rfl, Frm.refl _ _⟩
    case round =>
      obtain ⟨k, hk, rfl, he, hs⟩ := hrel
      by_cases hlt : k < xs.length
      · obtain ⟨x, hx⟩ : ∃ x, xs[k]? = some x := ⟨_, List.getElem?_eq_getElem hlt⟩
        obtain ⟨y, hy⟩ : ∃ y, ys[k]? = some y := ⟨_, List.getElem?_eq_getElem (by omega)⟩
        obtain ⟨b, off, rfl, hb, hc⟩ := WL.at1 (Sl.same H.out hs) hx
        obtain ⟨b2, off2, rfl, hb2, hc2⟩ := WL.at1 (Sl.same H2.out hs) hy
        have hi0 : (0 : Int) ≤ k := by omega
        have hi1 : (k : Int) < xs.length := by omega
        have hi2 : (k : Int) < ys.length := by omega
        have HX := Lib.hid hx
        have HY := Lib.hid hy
        have HE := Lib.hid he
        have HS := Lib.hid hs
        clear hx hy he hs
        by_cases hxy : x = y
        · subst hxy
          have heq : ((x : Int) != (x : Int)) = false := by simp
          go_wp2
          refine wp_quiet (by kernel_rfl) (by kernel_rfl) ?_
          repeat (any_goals (first | go_big_quiet_step (fail) | quiet_step (fail)))
          refine wpQuiet_nil ?_
          rintro _ ⟨q, rfl⟩
          have HS2 := Lib.hid (HS.out.trans (more_same _ q) (fun _ _ h => h))
          go_wp2
          go_roundw
          case rel => exact ⟨k + 1, by omega, by go_num, by rw [take_snoc HX.out, take_snoc HY.out, HE.out], HS2.out⟩
          case measure => simp [intOf] <;> omega
        · have hne : ((x : Int) != (y : Int)) = true := by simp <;> omega
          have hfin : decide (xs = ys) = false := by
            rw [decide_eq_false_iff_not]
            rintro rfl
            exact hxy (Option.some.inj (HX.out.symm.trans HY.out))
          have HFIN := Lib.hid hfin
          clear hxy hfin
          go_wp2
          refine wp_quiet (by kernel_rfl) (by kernel_rfl) ?_
          repeat (any_goals (first | go_big_quiet_step (fail) | quiet_step (fail)))
          refine wpQuiet_nil ?_
          rintro _ ⟨q, rfl⟩
          have HS2 := Lib.hid (HS.out.trans (more_same _ q) (fun _ _ h => h))
          go_wp2
          go_ret
          exact ⟨ret_bool HFIN.out.symm, HS2.out⟩
      · obtain rfl : k = xs.length := by omega
        have hfin : decide (xs = ys) = true := by
          rw [decide_eq_true_iff]
          rw [List.take_of_length_le (Nat.le_refl _), List.take_of_length_le (by omega)] at he
          exact he
        have HFIN := Lib.hid hfin
        clear he hfin
        go_wp2
        go_ret
        exact ⟨ret_bool HFIN.out.symm, hs⟩
  · have hl' : ((xs.length : Int) != (ys.length : Int)) = true := by simp <;> omega
    have hfin : decide (xs = ys) = false := by
      rw [decide_eq_false_iff_not]
      rintro rfl
      exact hl rfl
    have HFIN := Lib.hid hfin
    clear hl hfin
    go_enter Try.func19, Try.ntmps19
    go_wp2
    go_ret
    exact ⟨ret_bool HFIN.out.symm, Frm.refl _ _⟩

end Go.Proofs.Ytakepdkokjecoaa


/- Shape: the document's Words, Fill. -/
namespace Go.Proofs.Ytakepdkokjecoaa
open Go.RowKit Go.Tk

set_option maxHeartbeats 2000000 in
theorem swords_any (n : Nat) (w : World) (h : n ≤ 16) : Calls Try.prog 35 #[.int .i64 n] w fun e w' => e = .returned (.int .i64 (nw n : Nat)) ∧ w = w' := by
  by_cases h6 : n ≤ 6
  · have hn : nw n = 1 := by unfold nw; rw [if_pos h6]
    rw [hn]
    have h6i : (n : Int) ≤ 6 := by omega
    clear hn
    go_enter Try.func35, Try.ntmps35
    go_wp2
    go_ret
    exact ⟨rfl, rfl⟩
  · obtain ⟨m, rfl⟩ : ∃ m, n = m + 6 := ⟨n - 6, by omega⟩
    have hn : nw (m + 6) = 2 ^ m := by unfold nw; rw [if_neg h6, Nat.add_sub_cancel]
    have hp : (2 : Nat) ^ m ≤ 2 ^ 16 := Nat.pow_le_pow_right (by omega) (by omega)
    have h2 : (2 : Int) ^ m = ((2 ^ m : Nat) : Int) := by rw [Int.natCast_pow]; rfl
    have hw : IntKind.i64.wrap ((2 : Int) ^ m) = ((2 ^ m : Nat) : Int) := by
      rw [h2]
      generalize 2 ^ m = z at *
      exact IntWalk.i64_in _ (by omega)
    have hw1 : IntKind.i64.wrap (((m + 6 : Nat) : Int) - 6) = (m : Int) := by
      rw [show ((m + 6 : Nat) : Int) - 6 = (m : Int) by omega]
      exact IntWalk.i64_in _ (by omega)
    rw [hn]
    have h6i : ¬ ((m + 6 : Nat) : Int) ≤ 6 := by omega
    have h60 : (0 : Int) ≤ m := by omega
    obtain ⟨z, hz⟩ : ∃ z : Nat, z = 2 ^ m := ⟨_, rfl⟩
    rw [← hz] at hw ⊢
    have hm64 : min m 64 = m := by omega
    have hw2 : wrap64 ((2 : Int) ^ m) = (z : Int) := by rw [← hw]; simp [IntKind.wrap_i64, wrap64]
    clear hn h2 hp hz
    obtain ⟨y, hy⟩ : ∃ y : Nat, y = m + 6 := ⟨_, rfl⟩
    rw [← hy] at hw1 h6i ⊢
    clear hy h6 h
    go_enter Try.func35, Try.ntmps35
    go_wp2
    go_ret
    exact ⟨rfl, rfl⟩
set_option maxRecDepth 100000 in
set_option maxHeartbeats 4000000 in
theorem fill_any (n C : Nat) (A : Option Addr) (F : Nat → Bool) (w : World) (hn : n ≤ 16) (h : BL w A (2 ^ n) (vals (2 ^ n) F)) :
    Calls Try.prog 23 #[.int .i64 n, .slice A (2 ^ n) C] w (RetT w n (tab n F)) := by
  have hmk := fun w => run_make_n (P := Try.prog) Try.underlying35 info_u64 .i64 .i64 (nw n) (show 8 * nw n ≤ 281474976710656 by have := nw_le hn; omega) (show nw n ≤ 9223372036854775807 by have := nw_le hn; omega) w
  have hnl := nw_le hn
  have hwd := fun w => swords_any n w hn
  have hp16 := pow_le16 hn
  have hfull := part_full n F
  have hdl : ∀ i, i < 2 ^ n → i / 64 < nw n := fun i hi => div_lt_nw hi
  have hput : ∀ k, k < 2 ^ n → F k = true → ∃ x, (Tk.part n F k)[k / 64]? = some x ∧ x + 2 ^ (k % 64) < 18446744073709551616 ∧ (Tk.part n F k).set (k / 64) (x + 2 ^ (k % 64)) = Tk.part n F (k + 1) := fun k hk hF =>
    ⟨_, part_get (div_lt_nw hk), by rw [word_put hk hF]; exact word_lt _ _ _, part_put hk hF⟩
  have hsame : ∀ k, F k = false → Tk.part n F (k + 1) = Tk.part n F k := fun k hF => part_same hF
  have hz := part_zero n F
  have hll := part_len n F
  obtain ⟨W, hW⟩ : ∃ W, tab n F = W := ⟨_, rfl⟩
  rw [hW] at hfull ⊢
  have hWl : W.length = nw n := by rw [← hW]; exact tab_len n F
  obtain ⟨K, hK⟩ : ∃ K, nw n = K := ⟨_, rfl⟩
  rw [hK] at hmk hnl hwd hdl hz hll hWl
  obtain ⟨M, hM⟩ : ∃ M, 2 ^ n = M := ⟨_, rfl⟩
  rw [hM] at hp16 hfull hdl hput h ⊢
  have HFULL := Lib.hid hfull
  have HDL := Lib.hid hdl
  have HPUT := Lib.hid hput
  have HSAME := Lib.hid hsame
  have HZ := Lib.hid hz
  have HLL := Lib.hid hll
  have HWL := Lib.hid hWl
  have HWD := Lib.hid hwd
  have H := Lib.hid h
  clear hM hK hW hfull hdl hput hsame hz hll hWl hwd h
  go_enter Try.func23, Try.ntmps23
  go_wp2_with (fail)
  refine call_world fun w1 hw1 => ?_
  refine (HWD.out w1).mono ?_
  rintro e w2 ⟨rfl, rfl⟩
  go_upto_region 2 with fail
  refine wp_world fun wb hwb => ?_
  subst hw1
  have hsb : Same w wb := by rw [hwb]; exact (((Frm.refl _ _).alloc _).alloc _).alloc _
  have hBR : Blk wb w.heap.size 37 #[.int .i64 0, .slice none 0 0] := by rw [hwb]; exact ((Blk.new w _ _).alloc _).alloc _
  have hBT : Blk wb (w.heap.size + 1 + 1) 37 #[.int .i64 n, .slice (some ⟨w.heap.size + 1, 0, none⟩) K K] := by
    rw [hwb]
    have := Blk.new ((w.alloc (.cells #[.int .i64 0, .slice none 0 0] 37)).alloc (.cells (madeCells #[.int .u64 0] K) 30)) 37 #[.int .i64 n, .slice (some ⟨w.heap.size + 1, 0, none⟩) K K]
    simpa using this
  have hOD : OwnW wb (some ⟨w.heap.size + 1, 0, none⟩) K K (Tk.part n F 0) := by
    rw [hwb, HZ.out]
    have := Own.ofMade (m := 1) (w.alloc (.cells #[.int .i64 0, .slice none 0 0] 37)) 30 ucell (fun _ => rfl) (by decide) 0 K (show K ≤ 9223372036854775807 by omega) rfl
    have h2 := Own.frm this ((Frm.refl (fun _ => False) _).alloc (.cells #[.int .i64 n, .slice (some ⟨w.heap.size + 1, 0, none⟩) K K] 37)) (fun _ _ => id)
    simpa [ucell] using h2
  clear hwb hmk
  obtain ⟨T, hT⟩ : ∃ T, w.heap.size + 1 + 1 = T := ⟨_, rfl⟩
  rw [hT] at hBT ⊢
  obtain ⟨D, hD⟩ : ∃ D, w.heap.size + 1 = D := ⟨_, rfl⟩
  rw [hD] at hBT hOD ⊢
  have hnDT : D ≠ T := by omega
  have hnRT : w.heap.size ≠ T := by omega
  have hnRD : w.heap.size ≠ D := by omega
  have hwD : w.heap.size ≤ D := by omega
  have hwT : w.heap.size ≤ T := by omega
  clear hD hT
  have HBR := Lib.hid hBR
  have HBT := Lib.hid hBT
  have HOD := Lib.hid hOD
  have HSB := Lib.hid hsb
  clear hBR hBT hOD hsb
  go_wp2
  go_loopw [6] (fun i wr => ∃ k : Nat, k ≤ M ∧ i = .int .i64 k ∧ Same w wr ∧ Blk wr w.heap.size 37 #[.int .i64 0, .slice none 0 0] ∧ Blk wr T 37 #[.int .i64 n, .slice (some ⟨D, 0, none⟩) K K] ∧ OwnW wr (some ⟨D, 0, none⟩) K K (Tk.part n F k)) (fun i _ => M - (intOf i).toNat)
  case atStart => exact ⟨0, by omega, rfl, HSB.out, HBR.out, HBT.out, HOD.out⟩
  case round =>
    clear HBR HBT HOD HSB
    obtain ⟨k, hk, rfl, hs, hBR, hBT, hOD⟩ := hrel
    by_cases hlt : k < M
    · have hk1 : (k : Int) < M := by omega
      have hk0 : (0 : Int) ≤ k := by omega
      obtain ⟨v, hv⟩ : ∃ v, F k = v := ⟨_, rfl⟩
      obtain ⟨bq, offq, hA, hbl, hcq⟩ := BL.at1 (Sl.same H.out hs) (show (vals M F)[k]? = some v by rw [vals_get hlt, hv])
      subst hA
      cases v with
      | true =>
        obtain ⟨x, hx, hxl, hxs⟩ := HPUT.out k hlt hv
        have hdk := HDL.out k hlt
        have hst := fun (w' : World) (hs' : Same wr w') => Own.put1 (c := fun x : Nat => .int .u64 (x : Int)) (Own.frm hOD hs' (fun _ _ => id)) (i := k / 64) (by rw [HLL.out]; exact hdk) (x + 2 ^ (k % 64))
        rw [hxs] at hst
        obtain ⟨sb, hsb, hDl, hcD⟩ := hOD.at1 (c := fun x : Nat => .int .u64 (x : Int)) hx
        injection hsb with hsb
        injection hsb with hsb
        subst hsb
        have hm64 : min (k % 64) 64 = k % 64 := by omega
        have hkk : k % 64 < 64 := by omega
        have hn1 : (k : Int) / 64 = ((k / 64 : Nat) : Int) := by omega
        have hn2 : (k : Int) % 64 = ((k % 64 : Nat) : Int) := by omega
        have h2p : (2 : Int) ^ (k % 64) = ((2 ^ (k % 64) : Nat) : Int) := pow_int _
        have HS := Lib.hid hs
        have HBRw := Lib.hid hBR
        have HBTw := Lib.hid hBT
        have HOD := Lib.hid hOD
        have HST := Lib.hid hst
        have hcT : wr.cell? ⟨T, 1, none⟩ = some (.slice (some ⟨D, 0, none⟩) K K) := hBT.cell 1
        have hTl := hBT.lt
        clear hs hBR hBT hOD hst hx hxs hv
        generalize k % 64 = r at *
        generalize k / 64 = qq at *
        generalize 2 ^ r = p at *
        have hsw : wrap64 ((2 : Int) ^ r) = wrap64 (p : Int) := by rw [h2p]
        have hsw2 : IntKind.u64.wrap ((2 : Int) ^ r) = (p : Int) := by rw [h2p]; exact IntWalk.u64_in _ (by omega)
        have hsum : IntKind.u64.wrap ((x : Int) + p) = ((x + p : Nat) : Int) := by rw [IntWalk.u64_in _ (by omega)]; simp
        have hqk : (qq : Int) < K := by omega
        have hq0 : (0 : Int) ≤ qq := by omega
        clear h2p
        go_upto_region 6 with fail
        refine wp_quiet_tail 11 (by kernel_rfl) (by kernel_rfl) ?_
        simp only [List.take_succ_cons, List.take_zero, List.drop_succ_cons, List.drop_zero]
        repeat (any_goals (first | go_big_quiet_step (fail) | quiet_step (fail)))
        refine wpQuiet_nil ?_
        rintro wz ⟨q, hq⟩
        have hsz : Same wr wz := by rw [hq]; exact more_same _ q
        have hfz := Own.free (Own.frm HOD.out hsz (fun _ _ => id)) qq
        have hcz := (hsz.cell (p := ⟨D, qq, none⟩) hDl id).trans hcD
        have HSZ := Lib.hid ((HS.out.trans hsz (fun _ _ h => h)).setNew (g := D) qq (.int .u64 ((x + p : Nat) : Int)) hwD)
        have HBRz := Lib.hid ((HBRw.out.frm hsz id).far (p := ⟨D, qq, none⟩) hnRD (.int .u64 ((x + p : Nat) : Int)))
        have HBTz := Lib.hid ((HBTw.out.frm hsz id).far (p := ⟨D, qq, none⟩) (Ne.symm hnDT) (.int .u64 ((x + p : Nat) : Int)))
        have HOZ := Lib.hid (HST.out wz hsz)
        have hDz : D < wz.heap.size := by have := hsz.size; omega
        clear hq hsz hcD hDl hcT hTl hcq hbl hm64 hn1 hn2 hsw hsw2
        go_wp2
        go_roundw
        case rel => exact ⟨k + 1, by omega, by go_num, HSZ.out, HBRz.out, HBTz.out, HOZ.out⟩
        case measure => simp [intOf] <;> omega
      | false =>
        have hsm := HSAME.out k hv
        have HS := Lib.hid hs
        have HBRw := Lib.hid hBR
        have HBTw := Lib.hid hBT
        rw [← hsm] at hOD
        have HOD := Lib.hid hOD
        clear hs hBR hBT hOD hv hsm
        go_wp2
        go_roundw
        case rel => exact ⟨k + 1, by omega, by go_num, HS.out, HBRw.out, HBTw.out, HOD.out⟩
        case measure => simp [intOf] <;> omega
    · obtain rfl : k = M := by omega
      rw [HFULL.out] at hOD
      have HS := Lib.hid hs
      have HBR := Lib.hid hBR
      have HBT := Lib.hid hBT
      have HOD := Lib.hid hOD
      have hcT0 : wr.cell? ⟨T, 0, none⟩ = some (.int .i64 n) := hBT.cell 0
      have hcT : wr.cell? ⟨T, 1, none⟩ = some (.slice (some ⟨D, 0, none⟩) K K) := hBT.cell 1
      have hTl := hBT.lt
      have hRl := hBR.lt
      have hfR0 := hBR.free 0
      have hfR1 := hBR.free 1
      have hcR0 : wr.cell? ⟨w.heap.size, 0, none⟩ = some (.int .i64 0) := hBR.cell 0
      have hcR1 : wr.cell? ⟨w.heap.size, 1, none⟩ = some (.slice none 0 0) := hBR.cell 1
      clear hs hBR hBT hOD
      go_wp2
      refine wp_post fun we hwe => ?_
      have hBE : Blk we w.heap.size 37 #[.int .i64 n, .slice (some ⟨D, 0, none⟩) K K] := by
        rw [hwe]
        have := (HBR.out.set 0 (.int .i64 n)).set 1 (.slice (some ⟨D, 0, none⟩) K K)
        simpa using this
      have hOE : OwnW we (some ⟨D, 0, none⟩) K K W := by
        rw [hwe]
        exact (Own.far (p := ⟨w.heap.size, 0, none⟩) HOD.out (fun a ha h => by injection ha with ha; subst ha; exact hnRD h.symm) _).far (p := ⟨w.heap.size, 1, none⟩) (fun a ha h => by injection ha with ha; subst ha; exact hnRD h.symm) _
      have hSE : Same w we := by rw [hwe]; exact (HS.out.setNew 0 _ (Nat.le_refl _)).setNew 1 _ (Nat.le_refl _)
      have hc0 : we.cell? ⟨w.heap.size, 0, none⟩ = some (.int .i64 n) := hBE.cell 0
      have hc1 : we.cell? ⟨w.heap.size, 1, none⟩ = some (.slice (some ⟨D, 0, none⟩) K K) := hBE.cell 1
      clear hwe hBE
      refine bodyPost_ret (v := .agg #[.int .i64 n, .slice (some ⟨D, 0, none⟩) K K]) (by simp [results, Try.results23, go_sem, hc0, hc1]) rfl ?_
      refine ⟨some ⟨D, 0, none⟩, K, by rw [HWL.out], ?_, fresh_some hwD, hSE⟩
      rw [HWL.out]
      exact hOE
end Go.Proofs.Ytakepdkokjecoaa


/- Shape: ShapeFixed: contents. -/
namespace Go.Proofs.Ytakepdkokjecoaa
open Go.RowKit Go.Tk Go.Maps

theorem tl1 (w : World) (N : Int) (A : Option Addr) (L C : Nat) (ws : List Nat) (hL : L = ws.length) (h : OwnW w A L C ws) (hs : Small ws) :
    Sl (w.alloc (.cells #[.int .i64 N, .slice A L C] 37)) 2 Tb.cells (some ⟨w.heap.size, 0, none⟩) 1 [⟨N, A, C, ws⟩] ∧ (∀ t ∈ [(⟨N, A, C, ws⟩ : Tb)], TbOk (w.alloc (.cells #[.int .i64 N, .slice A L C] 37)) t) := by
  subst hL
  have hsm : Same w (w.alloc (.cells #[.int .i64 N, .slice A ws.length C] 37)) := (Frm.refl _ _).alloc _
  refine ⟨(Own.lit w 37 Tb.cells (m := 2) (fun _ => rfl) [⟨N, A, C, ws⟩] (by simp [maxLen]) rfl).sl (fun _ => rfl), fun t ht => ?_⟩
  obtain rfl := List.mem_singleton.1 ht
  exact ⟨Sl.same (h.sl ucell_len) hsm, hs⟩
theorem tl2 (w : World) (N N' : Int) (A A' : Option Addr) (L L' C C' : Nat) (ws ws' : List Nat) (hL : L = ws.length) (hL' : L' = ws'.length) (h : OwnW w A L C ws) (h' : OwnW w A' L' C' ws') (hs : Small ws) (hs' : Small ws') :
    Sl (w.alloc (.cells #[.int .i64 N, .slice A L C, .int .i64 N', .slice A' L' C'] 37)) 2 Tb.cells (some ⟨w.heap.size, 0, none⟩) 2 [⟨N, A, C, ws⟩, ⟨N', A', C', ws'⟩] ∧ (∀ t ∈ [(⟨N, A, C, ws⟩ : Tb), ⟨N', A', C', ws'⟩], TbOk (w.alloc (.cells #[.int .i64 N, .slice A L C, .int .i64 N', .slice A' L' C'] 37)) t) := by
  subst hL hL'
  have hsm : Same w (w.alloc (.cells #[.int .i64 N, .slice A ws.length C, .int .i64 N', .slice A' ws'.length C'] 37)) := (Frm.refl _ _).alloc _
  refine ⟨(Own.lit w 37 Tb.cells (m := 2) (fun _ => rfl) [⟨N, A, C, ws⟩, ⟨N', A', C', ws'⟩] (by simp [maxLen]) rfl).sl (fun _ => rfl), fun t ht => ?_⟩
  rcases List.mem_cons.1 ht with rfl | ht
  · exact ⟨Sl.same (h.sl ucell_len) hsm, hs⟩
  · obtain rfl := List.mem_singleton.1 ht
    exact ⟨Sl.same (h'.sl ucell_len) hsm, hs'⟩
theorem small_one {x : Nat} (h : x < 18446744073709551616) : Small [x] := fun z hz => by obtain rfl := List.mem_singleton.1 hz; exact h
theorem oks_same {w w' : World} {ts : List Tb} (h : ∀ t ∈ ts, TbOk w t) (hs : Same w w') : ∀ t ∈ ts, TbOk w' t := fun t ht => (h t ht).same hs
/-- a row of lists of tables beside what is wanted -/
def Six (w : World) (RB WB : Nat) : Prop := ∀ k, k < 6 → ∃ (A : Option Addr) (L C : Nat) (ts : List Tb) (z : Int), w.cell? ⟨RB, k, none⟩ = some (.slice A L C) ∧ Sl w 2 Tb.cells A L ts ∧ (∀ t ∈ ts, TbOk w t) ∧ L ≤ 10 ∧ prE ts [0, 1] = 0 ∧ (prL ts [0, 1]).sum = z ∧ w.cell? ⟨WB, k, none⟩ = some (.int .i64 z)
theorem Six.same {w w' : World} {RB WB : Nat} (h : Six w RB WB) (h1 : RB < w.heap.size) (h2 : WB < w.heap.size) (hs : Same w w') : Six w' RB WB := fun k hk => by
  obtain ⟨A, L, C, ts, z, a, b, c, d, e, f, g⟩ := h k hk
  exact ⟨A, L, C, ts, z, (hs.cell (p := ⟨RB, k, none⟩) h1 id).trans a, Sl.same b hs, oks_same c hs, d, e, f, (hs.cell (p := ⟨WB, k, none⟩) h2 id).trans g⟩
theorem fx_le (A B : Option Addr) (C D : Nat) : prE [⟨2, A, C, [8]⟩] [0, 1] = 0 ∧ (prL [⟨2, A, C, [8]⟩] [0, 1]).sum = 2 ∧ prE [⟨2, A, C, [6]⟩] [0, 1] = 0 ∧ (prL [⟨2, A, C, [6]⟩] [0, 1]).sum = 3 ∧ prE [⟨2, A, C, [8]⟩, ⟨2, B, D, [14]⟩] [0, 1] = 0 ∧ (prL [⟨2, A, C, [8]⟩, ⟨2, B, D, [14]⟩] [0, 1]).sum = 3 ∧ prE [⟨2, A, C, [10]⟩] [0, 1] = 0 ∧ (prL [⟨2, A, C, [10]⟩] [0, 1]).sum = 1 ∧ prE [⟨2, A, C, [0]⟩, ⟨2, B, D, [15]⟩] [0, 1] = 0 ∧ (prL [⟨2, A, C, [0]⟩, ⟨2, B, D, [15]⟩] [0, 1]).sum = 0 ∧ prE [] [0, 1] = 0 ∧ (prL [] [0, 1]).sum = 0 := by
  refine ⟨by kernel_rfl, by kernel_rfl, by kernel_rfl, by kernel_rfl, by kernel_rfl, by kernel_rfl, by kernel_rfl, by kernel_rfl, by kernel_rfl, by kernel_rfl, by kernel_rfl, by kernel_rfl⟩
def pF (x : Nat) : Bool := decide (x % 4 = 3) || (decide (x / 4 % 4 = 3) || decide (x / 16 % 4 = 3))
theorem fx_f (A : Option Addr) (C : Nat) : prE [⟨6, A, C, tab 6 pF⟩] [0, 1, 2, 3, 4, 5] = 0 ∧ (prL [⟨6, A, C, tab 6 pF⟩] [0, 1, 2, 3, 4, 5]).sum = 6 ∧ prE [⟨6, A, C, tab 6 pF⟩] [0, 2, 4, 1, 3, 5] = 0 ∧ (prL [⟨6, A, C, tab 6 pF⟩] [0, 2, 4, 1, 3, 5]).sum = 14 := by
  refine ⟨by kernel_rfl, by kernel_rfl, by kernel_rfl, by kernel_rfl⟩
theorem fx_e (A B : Option Addr) (C D : Nat) : prE [⟨2, A, C, [16]⟩] [0, 1] = 5 ∧ prE [⟨2, A, C, [8]⟩] [0] = 4 ∧ prE [⟨2, A, C, [8]⟩, ⟨1, B, D, [1]⟩] [0, 0] = 5 ∧ prE [⟨2, A, C, [12]⟩] [0, 1] = 0 ∧ prL [⟨2, A, C, [12]⟩] [0, 1] = [0, 1] := by
  refine ⟨by kernel_rfl, by kernel_rfl, by kernel_rfl, by kernel_rfl, by kernel_rfl⟩
theorem fx_l (A : Option Addr) (C : Nat) : lvE [⟨2, A, C, [6]⟩] 2 1 = 4 ∧ lvE [⟨2, A, C, [6]⟩] 0 2 = 2 ∧ lvE [⟨2, A, C, [6]⟩] 4 0 = 2 ∧ lvE [] 1 15 = 0 ∧ lvC [] 1 15 = 0 ∧ lvE [] 0 16 = 2 := by
  refine ⟨by kernel_rfl, by kernel_rfl, by kernel_rfl, by kernel_rfl, by kernel_rfl, by kernel_rfl⟩
theorem fx_i : idE 17 = 0 ∧ (idR 17).length = 17 ∧ prE [] (idR 17) = 6 ∧ prE [] [1] = 4 := by
  refine ⟨by kernel_rfl, by kernel_rfl, by kernel_rfl, by kernel_rfl⟩
def qF (x : Nat) : Bool := decide (3 ≤ x)
theorem fx_p (A : Option Addr) (C : Nat) : paE [⟨3, A, C, tab 3 qF⟩] = 0 ∧ paR [⟨3, A, C, tab 3 qF⟩] = [6, 5, 3] ∧ paE [] = 0 ∧ paR [] = [] := by
  refine ⟨by kernel_rfl, by kernel_rfl, by kernel_rfl, by kernel_rfl⟩
theorem b1_eq : ∀ k : Nat, k < 64 → (bits .and .i64 (k : Int) 3 == 3) = decide (k % 4 = 3) := by
  have h : ∀ k : Fin 64, (bits .and .i64 ((k : Nat) : Int) 3 == 3) = decide ((k : Nat) % 4 = 3) := by decide +kernel
  exact fun k hk => h ⟨k, hk⟩
theorem b2_eq (k : Nat) (hk : k < 64) : (bits .and .i64 ((k : Int) / 4) 3 == 3) = decide (k / 4 % 4 = 3) := by
  rw [show (k : Int) / 4 = ((k / 4 : Nat) : Int) by omega]
  exact b1_eq _ (by omega)
theorem b3_eq (k : Nat) (hk : k < 64) : (bits .and .i64 ((k : Int) / 16) 3 == 3) = decide (k / 16 % 4 = 3) := by
  rw [show (k : Int) / 16 = ((k / 16 : Nat) : Int) by omega]
  exact b1_eq _ (by omega)
end Go.Proofs.Ytakepdkokjecoaa
