/- Contracts and plain laws, put together in one file. No condition. -/
import Derived.Test.YtakepdkokjecoaaJShapeAlike3
import Derived.Test.YtakepdkokjecoaaRows


/- Shape: order, repeats and constants make no difference (plain). -/
namespace Go.Proofs.Ytakepdkokjecoaa
open Go.RowKit Go.Tk Go.Maps

def cst (nn : Nat) (c : Bool) : List Nat := tab nn (fun _ => c)
theorem hT_cst {nn v : Nat} (hv : v < nn) (b c : Bool) : hT nn v b (cst nn c) = cst nn c := by
  unfold hT cst
  refine tab_congr fun i hi => ?_
  show vb (tab nn (fun _ => c)) (wth i v b) = c
  rw [vb_tab (wth_lt hi hv)]
theorem cst_dep {nn v : Nat} (hv : v < nn) (c : Bool) : ¬ dep nn v (cst nn c) := by
  unfold dep
  have h1 : loT nn v (cst nn c) = cst nn c := hT_cst hv false c
  have h2 : hiT nn v (cst nn c) = cst nn c := hT_cst hv true c
  rw [h1, h2]
  exact fun h => h rfl
/-- the same functions, and constants among them -/
def CE (nn : Nat) (L K : List (List Nat)) : Prop := (∀ y ∈ L, y ∈ K) ∧ ∀ y ∈ K, y ∈ L ∨ ∃ c, y = cst nn c
theorem CE.step {nn v : Nat} {L K : List (List Nat)} (hv : v < nn) (h : CE nn L K) : CE nn (stepS nn v L) (stepS nn v K) := by
  constructor
  · intro y hy
    obtain ⟨x, hx, b, rfl⟩ := stepS_hT.1 hy
    exact stepS_hT.2 ⟨x, h.1 x hx, b, rfl⟩
  · intro y hy
    obtain ⟨x, hx, b, rfl⟩ := stepS_hT.1 hy
    rcases h.2 x hx with h1 | ⟨c, rfl⟩
    · exact .inl (stepS_hT.2 ⟨x, h1, b, rfl⟩)
    · exact .inr ⟨c, hT_cst hv b c⟩
theorem CE.set {nn : Nat} : ∀ (vs : List Nat) {L K : List (List Nat)}, (∀ v ∈ vs, v < nn) → CE nn L K → CE nn (setAt nn L vs) (setAt nn K vs)
  | [], _, _, _, h => h
  | v :: vs, L, K, hv, h => by
    rw [setAt_cons, setAt_cons]
    exact CE.set vs (fun w hw => hv w (List.mem_cons_of_mem _ hw)) (h.step (hv v List.mem_cons_self))
theorem CE.cnt {nn v : Nat} {L K : List (List Nat)} (hv : v < nn) (hL : L.Nodup) (hK : K.Nodup) (h : CE nn L K) : cntL nn v K = cntL nn v L := by
  unfold cntL
  refine ((List.perm_ext_iff_of_nodup (hK.filter _) (hL.filter _)).2 fun y => ?_).length_eq
  rw [List.mem_filter, List.mem_filter, decide_eq_true_eq]
  constructor
  · rintro ⟨h1, h2⟩
    rcases h.2 y h1 with h3 | ⟨c, rfl⟩
    · exact ⟨h3, h2⟩
    · exact absurd h2 (cst_dep hv c)
  · rintro ⟨h1, h2⟩
    exact ⟨h.1 y h1, h2⟩
/-- the list of the same tables, with constants -/
structure Alk (nn : Nat) (xs ts : List Tb) : Prop where
  all : ∀ x ∈ xs, x ∈ ts
  old : ∀ t ∈ ts, t ∈ xs ∨ (t.N = (nn : Int) ∧ ∃ c, t.ws = cst nn c)
theorem prV_self {v : Nat} (hv : v < 16) : ∀ (ts : List Tb) (a : Nat), (ts.foldl (pstep v) a).testBit v = a.testBit v
  | [], a => rfl
  | t :: ts, a => by
    rw [List.foldl_cons, prV_self hv ts]
    unfold pstep
    split
    · have h1 : (18446744073709551615 - 2 ^ v).testBit v = false := by
        have h2 : 18446744073709551615 - 2 ^ v = 2 ^ 64 - (2 ^ v + 1) := by omega
        rw [h2, Nat.testBit_two_pow_sub_succ (Nat.pow_lt_pow_right (by omega) (by omega)), Nat.testBit_two_pow_self]
        simp
      unfold andB
      rw [Nat.testBit_or, Nat.testBit_and, h1, Bool.and_false, Bool.or_false]
    · rfl
theorem prV_same {v : Nat} (hv : v < 16) {xs ts : List Tb} (h : ∀ w, w < 16 → ((∃ t ∈ ts, (supN t.N t.ws).testBit v = true ∧ (supN t.N t.ws).testBit w = true) ↔ ∃ t ∈ xs, (supN t.N t.ws).testBit v = true ∧ (supN t.N t.ws).testBit w = true)) : prV ts v = prV xs v := by
  apply Nat.eq_of_testBit_eq
  intro w
  rcases Nat.lt_or_ge w 16 with hw | hw
  · by_cases hne : w = v
    · subst hne
      unfold prV
      rw [prV_self hw, prV_self hw]
    · have h1 := prV_bit hv hw hne ts 0
      have h2 := prV_bit hv hw hne xs 0
      have h3 : (prV ts v).testBit w = true ↔ (prV xs v).testBit w = true := by
        unfold prV
        rw [h1, h2, h w hw]
      exact Bool.eq_iff_iff.2 h3
  · have e : ∀ zs : List Tb, (prV zs v).testBit w = false := fun zs => Nat.testBit_lt_two_pow (Nat.lt_of_lt_of_le (prV_lt v zs 0 (by omega)) (show 2 ^ 16 ≤ 2 ^ w from Nat.pow_le_pow_right (by omega) hw))
    rw [e, e]
theorem alike_law {xs ts : List Tb} {os : List Int} (he : prE xs os = 0) (hne : xs ≠ []) (h : Alk os.length xs ts) :
    prE ts os = 0 ∧ prL ts os = prL xs os ∧ paE xs = 0 ∧ paE ts = 0 ∧ paR ts = paR xs := by
  obtain ⟨h16, hper⟩ := prE_16 he
  obtain ⟨hfm, hN⟩ := fm_of_ok he
  have hN := hN hne
  obtain ⟨x0, xs', rfl⟩ : ∃ x l, xs = x :: l := by
    cases xs with
    | nil => exact absurd rfl hne
    | cons x l => exact ⟨x, l, rfl⟩
  have htne : ts ≠ [] := by
    rintro rfl
    cases h.all x0 List.mem_cons_self
  have hform : ∀ t ∈ ts, t.N = (os.length : Int) ∧ FormN os.length t.ws := fun t ht => by
    rcases h.old t ht with h1 | ⟨h1, c, h2⟩
    · have h3 := fm_all hfm t h1
      have h4 : t.N = (os.length : Int) := h3.2.trans hN
      exact ⟨h4, frm_nat.1 (by rw [← h4]; exact h3.1)⟩
    · exact ⟨h1, by rw [h2]; exact tab_form h16⟩
  have ht0 : tN0 ts = (os.length : Int) := by
    obtain ⟨t, ht⟩ : ∃ t, ts[0]? = some t := ⟨_, List.getElem?_eq_getElem (List.length_pos_iff.2 htne)⟩
    unfold tN0
    rw [List.getD_eq_getElem?_getD, ht]
    exact (hform t (List.mem_of_getElem? ht)).1
  have hfm2 : fm ts = true := by
    refine List.all_eq_true.2 fun t ht => ?_
    obtain ⟨e1, e2⟩ := hform t ht
    have e4 : frm t.N t.ws = true := by rw [e1]; exact frm_nat.2 e2
    have e5 : t.N = (ts.getD 0 ⟨0, none, 0, []⟩).N := e1.trans ht0.symm
    simp only [Bool.and_eq_true, beq_iff_eq]
    exact ⟨e4, e5⟩
  have hE : prE ts os = 0 := by
    unfold prE
    rw [hfm2, if_pos rfl, if_neg, if_neg (by omega)]
    rintro (⟨_, h2⟩ | h1)
    · exact h2 ht0.symm
    · unfold chk at h1
      rw [if_pos hper] at h1
      split at h1 <;> cases h1
  have hCE : CE os.length (tSet (x0 :: xs')) (tSet ts) := by
    unfold tSet
    constructor
    · intro y hy
      obtain ⟨t, ht, rfl⟩ := List.mem_map.1 (mem_uniq.1 hy)
      exact mem_uniq.2 (List.mem_map.2 ⟨t, h.all t ht, rfl⟩)
    · intro y hy
      obtain ⟨t, ht, rfl⟩ := List.mem_map.1 (mem_uniq.1 hy)
      rcases h.old t ht with h1 | ⟨_, c, h2⟩
      · exact .inl (mem_uniq.2 (List.mem_map.2 ⟨t, h1, rfl⟩))
      · exact .inr ⟨c, h2⟩
  refine ⟨hE, ?_, by unfold paE; rw [hfm]; rfl, by unfold paE; rw [hfm2]; rfl, ?_⟩
  · apply List.ext_getElem?
    intro k
    rcases Nat.lt_or_ge k os.length with hk | hk
    · obtain ⟨v, hv, hvn⟩ := IsPerm.at hper hk
      rw [prl_at he hv, prl_at hE hv]
      congr 2
      exact CE.cnt hvn (setAt_nodup _ (uniq_nodup _)) (setAt_nodup _ (uniq_nodup _)) (CE.set _ (nats_lt hper) hCE)
    · have e1 : (prL ts os).length ≤ k := by have := prL_len ts os; omega
      have e2 : (prL (x0 :: xs') os).length ≤ k := by have := prL_len (x0 :: xs') os; omega
      rw [List.getElem?_eq_none e1, List.getElem?_eq_none e2]
  · unfold paR
    rw [if_pos ⟨hfm2, htne⟩, if_pos ⟨hfm, hne⟩, ht0, hN, Int.toNat_natCast]
    unfold prRow
    refine List.map_congr_left fun v hv => ?_
    rw [List.mem_range] at hv
    refine prV_same (by omega) fun w hw => ?_
    constructor
    · rintro ⟨t, ht, h1, h2⟩
      rcases h.old t ht with h3 | ⟨h3, c, h4⟩
      · exact ⟨t, h3, h1, h2⟩
      · rw [h3, h4] at h1
        exact absurd ((sup_dep (tab_form h16) hv).1 h1) (cst_dep hv c)
    · rintro ⟨t, ht, h1, h2⟩
      exact ⟨t, h.all t ht, h1, h2⟩
end Go.Proofs.Ytakepdkokjecoaa


/- Shape: the document's Words, Fill. -/
namespace Go.Proofs.Ytakepdkokjecoaa
open Go.RowKit Go.Tk

set_option maxHeartbeats 2000000 in
theorem swords_any (n : Nat) (w : World) (h : n ≤ 16) : Calls Try.prog 35 #[.int .i64 n] w fun e w' => e = .returned (.int .i64 (nw n : Nat)) ∧ w = w' := by
  by_cases h6 : n ≤ 6
  · have hn : nw n = 1 := by unfold nw; rw [if_pos h6]
    rw [hn]
    have h6i : (n : Int) ≤ 6 := by omega
    clear hn
    go_enter Try.func35, Try.ntmps35
    go_wp2
    go_ret
    exact ⟨rfl, rfl⟩
  · obtain ⟨m, rfl⟩ : ∃ m, n = m + 6 := ⟨n - 6, by omega⟩
    have hn : nw (m + 6) = 2 ^ m := by unfold nw; rw [if_neg h6, Nat.add_sub_cancel]
    have hp : (2 : Nat) ^ m ≤ 2 ^ 16 := Nat.pow_le_pow_right (by omega) (by omega)
    have h2 : (2 : Int) ^ m = ((2 ^ m : Nat) : Int) := by rw [Int.natCast_pow]; rfl
    have hw : IntKind.i64.wrap ((2 : Int) ^ m) = ((2 ^ m : Nat) : Int) := by
      rw [h2]
      generalize 2 ^ m = z at *
      exact IntWalk.i64_in _ (by omega)
    have hw1 : IntKind.i64.wrap (((m + 6 : Nat) : Int) - 6) = (m : Int) := by
      rw [show ((m + 6 : Nat) : Int) - 6 = (m : Int) by omega]
      exact IntWalk.i64_in _ (by omega)
    rw [hn]
    have h6i : ¬ ((m + 6 : Nat) : Int) ≤ 6 := by omega
    have h60 : (0 : Int) ≤ m := by omega
    obtain ⟨z, hz⟩ : ∃ z : Nat, z = 2 ^ m := ⟨_, rfl⟩
    rw [← hz] at hw ⊢
    have hm64 : min m 64 = m := by omega
    have hw2 : wrap64 ((2 : Int) ^ m) = (z : Int) := by rw [← hw]; simp [IntKind.wrap_i64, wrap64]
    clear hn h2 hp hz
    obtain ⟨y, hy⟩ : ∃ y : Nat, y = m + 6 := ⟨_, rfl⟩
    rw [← hy] at hw1 h6i ⊢
    clear hy h6 h
    go_enter Try.func35, Try.ntmps35
    go_wp2
    go_ret
    exact ⟨rfl, rfl⟩
set_option maxRecDepth 100000 in
set_option maxHeartbeats 4000000 in
theorem fill_any (n C : Nat) (A : Option Addr) (F : Nat → Bool) (w : World) (hn : n ≤ 16) (h : BL w A (2 ^ n) (vals (2 ^ n) F)) :
    Calls Try.prog 23 #[.int .i64 n, .slice A (2 ^ n) C] w (RetT w n (tab n F)) := by
  have hmk := fun w => run_make_n (P := Try.prog) Try.underlying35 info_u64 .i64 .i64 (nw n) (show 8 * nw n ≤ 281474976710656 by have := nw_le hn; omega) (show nw n ≤ 9223372036854775807 by have := nw_le hn; omega) w
  have hnl := nw_le hn
  have hwd := fun w => swords_any n w hn
  have hp16 := pow_le16 hn
  have hfull := part_full n F
  have hdl : ∀ i, i < 2 ^ n → i / 64 < nw n := fun i hi => div_lt_nw hi
  have hput : ∀ k, k < 2 ^ n → F k = true → ∃ x, (Tk.part n F k)[k / 64]? = some x ∧ x + 2 ^ (k % 64) < 18446744073709551616 ∧ (Tk.part n F k).set (k / 64) (x + 2 ^ (k % 64)) = Tk.part n F (k + 1) := fun k hk hF =>
    ⟨_, part_get (div_lt_nw hk), by rw [word_put hk hF]; exact word_lt _ _ _, part_put hk hF⟩
  have hsame : ∀ k, F k = false → Tk.part n F (k + 1) = Tk.part n F k := fun k hF => part_same hF
  have hz := part_zero n F
  have hll := part_len n F
  obtain ⟨W, hW⟩ : ∃ W, tab n F = W := ⟨_, rfl⟩
  rw [hW] at hfull ⊢
  have hWl : W.length = nw n := by rw [← hW]; exact tab_len n F
  obtain ⟨K, hK⟩ : ∃ K, nw n = K := ⟨_, rfl⟩
  rw [hK] at hmk hnl hwd hdl hz hll hWl
  obtain ⟨M, hM⟩ : ∃ M, 2 ^ n = M := ⟨_, rfl⟩
  rw [hM] at hp16 hfull hdl hput h ⊢
  have HFULL := Lib.hid hfull
  have HDL := Lib.hid hdl
  have HPUT := Lib.hid hput
  have HSAME := Lib.hid hsame
  have HZ := Lib.hid hz
  have HLL := Lib.hid hll
  have HWL := Lib.hid hWl
  have HWD := Lib.hid hwd
  have H := Lib.hid h
  clear hM hK hW hfull hdl hput hsame hz hll hWl hwd h
  go_enter Try.func23, Try.ntmps23
  go_wp2_with (fail)
  refine call_world fun w1 hw1 => ?_
  refine (HWD.out w1).mono ?_
  rintro e w2 ⟨rfl, rfl⟩
  go_upto_region 2 with fail
  refine wp_world fun wb hwb => ?_
  subst hw1
  have hsb : Same w wb := by rw [hwb]; exact (((Frm.refl _ _).alloc _).alloc _).alloc _
  have hBR : Blk wb w.heap.size 37 #[.int .i64 0, .slice none 0 0] := by rw [hwb]; exact ((Blk.new w _ _).alloc _).alloc _
  have hBT : Blk wb (w.heap.size + 1 + 1) 37 #[.int .i64 n, .slice (some ⟨w.heap.size + 1, 0, none⟩) K K] := by
    rw [hwb]
    have := Blk.new ((w.alloc (.cells #[.int .i64 0, .slice none 0 0] 37)).alloc (.cells (madeCells #[.int .u64 0] K) 30)) 37 #[.int .i64 n, .slice (some ⟨w.heap.size + 1, 0, none⟩) K K]
    simpa using this
  have hOD : OwnW wb (some ⟨w.heap.size + 1, 0, none⟩) K K (Tk.part n F 0) := by
    rw [hwb, HZ.out]
    have := Own.ofMade (m := 1) (w.alloc (.cells #[.int .i64 0, .slice none 0 0] 37)) 30 ucell (fun _ => rfl) (by decide) 0 K (show K ≤ 9223372036854775807 by omega) rfl
    have h2 := Own.frm this ((Frm.refl (fun _ => False) _).alloc (.cells #[.int .i64 n, .slice (some ⟨w.heap.size + 1, 0, none⟩) K K] 37)) (fun _ _ => id)
    simpa [ucell] using h2
  clear hwb hmk
  obtain ⟨T, hT⟩ : ∃ T, w.heap.size + 1 + 1 = T := ⟨_, rfl⟩
  rw [hT] at hBT ⊢
  obtain ⟨D, hD⟩ : ∃ D, w.heap.size + 1 = D := ⟨_, rfl⟩
  rw [hD] at hBT hOD ⊢
  have hnDT : D ≠ T := by omega
  have hnRT : w.heap.size ≠ T := by omega
  have hnRD : w.heap.size ≠ D := by omega
  have hwD : w.heap.size ≤ D := by omega
  have hwT : w.heap.size ≤ T := by omega
  clear hD hT
  have HBR := Lib.hid hBR
  have HBT := Lib.hid hBT
  have HOD := Lib.hid hOD
  have HSB := Lib.hid hsb
  clear hBR hBT hOD hsb
  go_wp2
  go_loopw [6] (fun i wr => ∃ k : Nat, k ≤ M ∧ i = .int .i64 k ∧ Same w wr ∧ Blk wr w.heap.size 37 #[.int .i64 0, .slice none 0 0] ∧ Blk wr T 37 #[.int .i64 n, .slice (some ⟨D, 0, none⟩) K K] ∧ OwnW wr (some ⟨D, 0, none⟩) K K (Tk.part n F k)) (fun i _ => M - (intOf i).toNat)
  case atStart => exact ⟨0, by omega, rfl, HSB.out, HBR.out, HBT.out, HOD.out⟩
  case round =>
    clear HBR HBT HOD HSB
    obtain ⟨k, hk, rfl, hs, hBR, hBT, hOD⟩ := hrel
    by_cases hlt : k < M
    · have hk1 : (k : Int) < M := by omega
      have hk0 : (0 : Int) ≤ k := by omega
      obtain ⟨v, hv⟩ : ∃ v, F k = v := ⟨_, rfl⟩
      obtain ⟨bq, offq, hA, hbl, hcq⟩ := BL.at1 (Sl.same H.out hs) (show (vals M F)[k]? = some v by rw [vals_get hlt, hv])
      subst hA
      cases v with
      | true =>
        obtain ⟨x, hx, hxl, hxs⟩ := HPUT.out k hlt hv
        have hdk := HDL.out k hlt
        have hst := fun (w' : World) (hs' : Same wr w') => Own.put1 (c := fun x : Nat => .int .u64 (x : Int)) (Own.frm hOD hs' (fun _ _ => id)) (i := k / 64) (by rw [HLL.out]; exact hdk) (x + 2 ^ (k % 64))
        rw [hxs] at hst
        obtain ⟨sb, hsb, hDl, hcD⟩ := hOD.at1 (c := fun x : Nat => .int .u64 (x : Int)) hx
        injection hsb with hsb
        injection hsb with hsb
        subst hsb
        have hm64 : min (k % 64) 64 = k % 64 := by omega
        have hkk : k % 64 < 64 := by omega
        have hn1 : (k : Int) / 64 = ((k / 64 : Nat) : Int) := by omega
        have hn2 : (k : Int) % 64 = ((k % 64 : Nat) : Int) := by omega
        have h2p : (2 : Int) ^ (k % 64) = ((2 ^ (k % 64) : Nat) : Int) := pow_int _
        have HS := Lib.hid hs
        have HBRw := Lib.hid hBR
        have HBTw := Lib.hid hBT
        have HOD := Lib.hid hOD
        have HST := Lib.hid hst
        have hcT : wr.cell? ⟨T, 1, none⟩ = some (.slice (some ⟨D, 0, none⟩) K K) := hBT.cell 1
        have hTl := hBT.lt
        clear hs hBR hBT hOD hst hx hxs hv
        generalize k % 64 = r at *
        generalize k / 64 = qq at *
        generalize 2 ^ r = p at *
        have hsw : wrap64 ((2 : Int) ^ r) = wrap64 (p : Int) := by rw [h2p]
        have hsw2 : IntKind.u64.wrap ((2 : Int) ^ r) = (p : Int) := by rw [h2p]; exact IntWalk.u64_in _ (by omega)
        have hsum : IntKind.u64.wrap ((x : Int) + p) = ((x + p : Nat) : Int) := by rw [IntWalk.u64_in _ (by omega)]; simp
        have hqk : (qq : Int) < K := by omega
        have hq0 : (0 : Int) ≤ qq := by omega
        clear h2p
        go_upto_region 6 with fail
        refine wp_quiet_tail 11 (by kernel_rfl) (by kernel_rfl) ?_
        simp only [List.take_succ_cons, List.take_zero, List.drop_succ_cons, List.drop_zero]
        repeat (any_goals (first | go_big_quiet_step (fail) | quiet_step (fail)))
        refine wpQuiet_nil ?_
        rintro wz ⟨q, hq⟩
        have hsz : Same wr wz := by rw [hq]; exact more_same _ q
        have hfz := Own.free (Own.frm HOD.out hsz (fun _ _ => id)) qq
        have hcz := (hsz.cell (p := ⟨D, qq, none⟩) hDl id).trans hcD
        have HSZ := Lib.hid ((HS.out.trans hsz (fun _ _ h => h)).setNew (g := D) qq (.int .u64 ((x + p : Nat) : Int)) hwD)
        have HBRz := Lib.hid ((HBRw.out.frm hsz id).far (p := ⟨D, qq, none⟩) hnRD (.int .u64 ((x + p : Nat) : Int)))
        have HBTz := Lib.hid ((HBTw.out.frm hsz id).far (p := ⟨D, qq, none⟩) (Ne.symm hnDT) (.int .u64 ((x + p : Nat) : Int)))
        have HOZ := Lib.hid (HST.out wz hsz)
        have hDz : D < wz.heap.size := by have := hsz.size; omega
        clear hq hsz hcD hDl hcT hTl hcq hbl hm64 hn1 hn2 hsw hsw2
        go_wp2
        go_roundw
        case rel => exact ⟨k + 1, by omega, by go_num, HSZ.out, HBRz.out, HBTz.out, HOZ.out⟩
        case measure => simp [intOf] <;> omega
      | false =>
        have hsm := HSAME.out k hv
        have HS := Lib.hid hs
        have HBRw := Lib.hid hBR
        have HBTw := Lib.hid hBT
        rw [← hsm] at hOD
        have HOD := Lib.hid hOD
        clear hs hBR hBT hOD hv hsm
        go_wp2
        go_roundw
        case rel => exact ⟨k + 1, by omega, by go_num, HS.out, HBRw.out, HBTw.out, HOD.out⟩
        case measure => simp [intOf] <;> omega
    · obtain rfl : k = M := by omega
      rw [HFULL.out] at hOD
      have HS := Lib.hid hs
      have HBR := Lib.hid hBR
      have HBT := Lib.hid hBT
      have HOD := Lib.hid hOD
      have hcT0 : wr.cell? ⟨T, 0, none⟩ = some (.int .i64 n) := hBT.cell 0
      have hcT : wr.cell? ⟨T, 1, none⟩ = some (.slice (some ⟨D, 0, none⟩) K K) := hBT.cell 1
      have hTl := hBT.lt
      have hRl := hBR.lt
      have hfR0 := hBR.free 0
      have hfR1 := hBR.free 1
      have hcR0 : wr.cell? ⟨w.heap.size, 0, none⟩ = some (.int .i64 0) := hBR.cell 0
      have hcR1 : wr.cell? ⟨w.heap.size, 1, none⟩ = some (.slice none 0 0) := hBR.cell 1
      clear hs hBR hBT hOD
      go_wp2
      refine wp_post fun we hwe => ?_
      have hBE : Blk we w.heap.size 37 #[.int .i64 n, .slice (some ⟨D, 0, none⟩) K K] := by
        rw [hwe]
        have := (HBR.out.set 0 (.int .i64 n)).set 1 (.slice (some ⟨D, 0, none⟩) K K)
        simpa using this
      have hOE : OwnW we (some ⟨D, 0, none⟩) K K W := by
        rw [hwe]
        exact (Own.far (p := ⟨w.heap.size, 0, none⟩) HOD.out (fun a ha h => by injection ha with ha; subst ha; exact hnRD h.symm) _).far (p := ⟨w.heap.size, 1, none⟩) (fun a ha h => by injection ha with ha; subst ha; exact hnRD h.symm) _
      have hSE : Same w we := by rw [hwe]; exact (HS.out.setNew 0 _ (Nat.le_refl _)).setNew 1 _ (Nat.le_refl _)
      have hc0 : we.cell? ⟨w.heap.size, 0, none⟩ = some (.int .i64 n) := hBE.cell 0
      have hc1 : we.cell? ⟨w.heap.size, 1, none⟩ = some (.slice (some ⟨D, 0, none⟩) K K) := hBE.cell 1
      clear hwe hBE
      refine bodyPost_ret (v := .agg #[.int .i64 n, .slice (some ⟨D, 0, none⟩) K K]) (by simp [results, Try.results23, go_sem, hc0, hc1]) rfl ?_
      refine ⟨some ⟨D, 0, none⟩, K, by rw [HWL.out], ?_, fresh_some hwD, hSE⟩
      rw [HWL.out]
      exact hOE
end Go.Proofs.Ytakepdkokjecoaa


/- Shape: the document's Const. -/
namespace Go.Proofs.Ytakepdkokjecoaa
open Go.RowKit Go.Tk

def bcl (b : Bool) : List Value := [.bool b]
def ctL (b : Bool) (M k : Nat) : List Bool := List.replicate k b ++ List.replicate (M - k) false
theorem ctL_set (b : Bool) {M k : Nat} (h : k < M) : (ctL b M k).set k b = ctL b M (k + 1) := by
  unfold ctL
  have h1 : (List.replicate k b).length = k := by simp
  rw [List.set_append_right _ _ (by omega), h1, Nat.sub_self, show M - k = (M - (k + 1)) + 1 by omega, List.replicate_succ, List.set_cons_zero, List.replicate_succ', List.append_assoc]
  rfl
theorem ctL_all (b : Bool) (M : Nat) : ctL b M M = vals M (fun _ => b) := by
  unfold ctL
  rw [Nat.sub_self, List.replicate_zero, List.append_nil]
  apply List.ext_getElem?
  intro i
  rcases Nat.lt_or_ge i M with h | h
  · simp [h, vals]
  · rw [List.getElem?_eq_none (by simpa using h), List.getElem?_eq_none (by simpa [vals] using h)]
set_option maxRecDepth 100000 in
set_option maxHeartbeats 4000000 in
theorem const5_any (n : Nat) (b : Bool) (w : World) (hn : n ≤ 16) : Calls Try.prog 20 #[.int .i64 n, .bool b] w (RetT w n (tab n (fun _ => b))) := by
  have HF := Lib.hid (fun A C w' (h : BL w' A (2 ^ n) (vals (2 ^ n) (fun _ => b))) => fill_any n C A (fun _ => b) w' hn h)
  obtain ⟨W, hW⟩ : ∃ W, W = tab n (fun _ => b) := ⟨_, rfl⟩
  rw [← hW] at HF ⊢
  clear hW
  have hp : (2 : Nat) ^ n ≤ 2 ^ 16 := Nat.pow_le_pow_right (by omega) hn
  have h2 : (2 : Int) ^ n = ((2 ^ n : Nat) : Int) := by rw [Int.natCast_pow]; rfl
  obtain ⟨M, hM⟩ : ∃ M, M = 2 ^ n := ⟨_, rfl⟩
  rw [← hM] at HF hp h2
  have hm64 : min n 64 = n := by omega
  have hw : IntKind.i64.wrap ((2 : Int) ^ n) = (M : Int) := by rw [h2]; exact IntWalk.i64_in _ (by omega)
  have hw2 : wrap64 ((2 : Int) ^ n) = (M : Int) := by rw [← hw]; simp [IntKind.wrap_i64, wrap64]
  have hmk := fun w => run_make_n (P := Try.prog) Try.underlying53 info_bool .i64 .i64 M (show 1 * M ≤ 281474976710656 by omega) (show M ≤ 9223372036854775807 by omega) w
  clear hM h2
  go_enter Try.func20, Try.ntmps20
  go_upto_region 2 with fail
  refine wp_world fun w1 hw1 => ?_
  have hs1 : Same w w1 := by rw [hw1]; exact ((Frm.refl _ _).alloc _).alloc _
  have hBR : Blk w1 w.heap.size 37 #[.int .i64 0, .slice none 0 0] := by
    rw [hw1]
    exact (Blk.new w 37 #[.int .i64 0, .slice none 0 0]).alloc _
  have hO : Own w1 4 1 bcl (some ⟨w.heap.size + 1, 0, none⟩) M M (ctL b M 0) := by
    have h := Own.ofMade (m := 1) (w.alloc (.cells #[.int .i64 0, .slice none 0 0] 37)) 4 bcl (fun _ => rfl) (by decide) false M (show M ≤ 9223372036854775807 by omega) rfl
    rw [hw1]
    simpa [ctL, bcl] using h
  obtain ⟨R, hR⟩ : ∃ z, z = w.heap.size := ⟨_, rfl⟩
  obtain ⟨G, hG⟩ : ∃ z, z = w.heap.size + 1 := ⟨_, rfl⟩
  have hwR : w.heap.size ≤ R := Nat.le_of_eq hR.symm
  have hwG : w.heap.size ≤ G := by omega
  have hGR : G ≠ R := by omega
  have hgg : (w.alloc (.cells #[.int .i64 0, .slice none 0 0] 37)).heap.size = G := by simp [hG]
  have hRG : R + 1 = G := by omega
  simp only [← hR, hRG] at hO hBR
  simp only [← hR, hRG]
  have HS := Lib.hid hs1
  have HBR := Lib.hid hBR
  have HO := Lib.hid hO
  clear hw1 hs1 hBR hO hG hR hgg hRG hmk hw hw2 hm64
  go_wp2
  go_loopw [6] (fun i wi => ∃ k : Nat, k ≤ M ∧ i = .int .i64 k ∧ Same w wi ∧ Blk wi R 37 #[.int .i64 0, .slice none 0 0] ∧ Own wi 4 1 bcl (some ⟨G, 0, none⟩) M M (ctL b M k)) (fun i _ => M - (intOf i).toNat)
  case atStart => exact ⟨0, by omega, rfl, HS.out, HBR.out, HO.out⟩
  case round =>
    clear HS HBR HO
    obtain ⟨k, hk, rfl, hs, hbr, ho⟩ := hrel
    by_cases hlt : k < M
    · have hlk : k < (ctL b M k).length := by rw [← ho.len]; exact hlt
      obtain ⟨x, hx⟩ : ∃ x, (ctL b M k)[k]? = some x := ⟨_, List.getElem?_eq_getElem hlk⟩
      obtain ⟨s0, h0, hgl, c0⟩ := Own.at1 (c := fun x : Bool => .bool x) ho hx
      injection h0 with h0
      injection h0 with h0
      subst h0
      have fz := Own.free ho k
      have HP := Lib.hid (Own.put1 (c := fun x : Bool => .bool x) ho hlk b)
      rw [ctL_set b hlt] at HP
      have HSP := Lib.hid (hs.setNew k (.bool b) hwG)
      have HBP := Lib.hid (hbr.far (p := ⟨G, k, none⟩) (Ne.symm hGR) (.bool b))
      have hk0 : (0 : Int) ≤ k := by omega
      have hk1 : (k : Int) < M := by omega
      clear hlk hx hs hbr ho
      go_wp2
      go_roundw
      case rel => exact ⟨k + 1, by omega, by go_num, HSP.out, HBP.out, HP.out⟩
      case measure => simp [intOf] <;> omega
    · obtain rfl : k = M := by omega
      have HB := Lib.hid (show BL wr (some ⟨G, 0, none⟩) k (vals k (fun _ => b)) by rw [← ctL_all]; exact ho.sl (fun _ => rfl))
      have HS := Lib.hid hs
      have HBR := Lib.hid hbr
      clear hs hbr ho
      go_wp2_with (fail)
      refine (HF.out (some ⟨G, 0, none⟩) k wr HB.out).mono ?_
      rintro e w2 ⟨A, C, rfl, hNT⟩
      have hBR := HBR.out.frm hNT.2.2 id
      have cR0 : w2.cell? ⟨R, 0, none⟩ = some (.int .i64 0) := hBR.cell 0
      have cR1 : w2.cell? ⟨R, 1, none⟩ = some (.slice none 0 0) := hBR.cell 1
      have lR := hBR.lt
      have fR0 := hBR.free 0
      have fR1 := hBR.free 1
      have HB2 := Lib.hid hBR
      have HOT := Lib.hid hNT.1
      have HFA := Lib.hid (show Fresh w.heap.size A from fun x hx => Nat.le_trans HS.out.size (hNT.2.1 x hx))
      have HAR := Lib.hid (show ∀ a, A = some a → a.block ≠ R from fun a ha h => by have := hNT.2.1 a.block ⟨a, ha, rfl⟩; have := HBR.out.lt; omega)
      have HS2 := Lib.hid (HS.out.trans hNT.2.2 (fun _ _ h => h))
      clear hNT hBR
      go_wp2
      refine wp_post fun w3 hw3 => ?_
      have hBE : Blk w3 R 37 #[.int .i64 n, .slice A W.length C] := by
        rw [hw3]
        have := (HB2.out.set 0 (.int .i64 n)).set 1 (.slice A W.length C)
        simpa using this
      have hSE : Same w w3 := by rw [hw3]; exact (HS2.out.setNew 0 _ hwR).setNew 1 _ hwR
      have hOE : OwnW w3 A W.length C W := by
        rw [hw3]
        exact (Own.far (p := ⟨R, 0, none⟩) HOT.out HAR.out _).far (p := ⟨R, 1, none⟩) HAR.out _
      have hr0 : w3.cell? ⟨R, 0, none⟩ = some (.int .i64 n) := hBE.cell 0
      have hr1 : w3.cell? ⟨R, 1, none⟩ = some (.slice A W.length C) := hBE.cell 1
      have HFF := HFA.out
      clear hw3 hBE
      refine bodyPost_ret (v := .agg #[.int .i64 n, .slice A W.length C]) (by simp [results, Try.results20, go_sem, hr0, hr1]) rfl ?_
      exact ⟨A, C, rfl, hOE, HFF, hSE⟩
end Go.Proofs.Ytakepdkokjecoaa


/- Shape: sets: are two lists of words alike? -/
namespace Go.Proofs.Ytakepdkokjecoaa
open Go.RowKit Go.Tk
set_option maxHeartbeats 1000000 in
theorem sets_any (A B : Option Addr) (n m C D : Nat) (xs ys : List Nat) (w : World) (h : WL w A n xs) (h2 : WL w B m ys) (hr : n * 8 ≤ 140737488351232) (hr2 : m * 8 ≤ 140737488351232) :
    Calls Try.prog 19 #[.slice A n C, .slice B m D] w fun e w' => e = .returned (.bool (decide (xs = ys))) ∧ Same w w' := by
  obtain rfl := h.len
  obtain rfl := h2.len
  have H := Lib.hid h
  have H2 := Lib.hid h2
  clear h h2
  by_cases hl : xs.length = ys.length
  · have hl1 : xs.length ≤ ys.length := by omega
    have hl2 : ys.length ≤ xs.length := by omega
    have hl' : ((xs.length : Int) != (ys.length : Int)) = false := by simp [hl]
    have HL := Lib.hid hl
    clear hl
    go_enter Try.func19, Try.ntmps19
    go_wp2
    go_loopw [5] (fun i wr => ∃ k : Nat, k ≤ xs.length ∧ i = .int .i64 k ∧ xs.take k = ys.take k ∧ Same w wr) (fun i _ => xs.length - (intOf i).toNat)
    case atStart => exact ⟨0, by omega, rfl, rfl, Frm.refl _ _⟩
    case round =>
      obtain ⟨k, hk, rfl, he, hs⟩ := hrel
      by_cases hlt : k < xs.length
      · obtain ⟨x, hx⟩ : ∃ x, xs[k]? = some x := ⟨_, List.getElem?_eq_getElem hlt⟩
        obtain ⟨y, hy⟩ : ∃ y, ys[k]? = some y := ⟨_, List.getElem?_eq_getElem (by omega)⟩
        obtain ⟨b, off, rfl, hb, hc⟩ := WL.at1 (Sl.same H.out hs) hx
        obtain ⟨b2, off2, rfl, hb2, hc2⟩ := WL.at1 (Sl.same H2.out hs) hy
        have hi0 : (0 : Int) ≤ k := by omega
        have hi1 : (k : Int) < xs.length := by omega
        have hi2 : (k : Int) < ys.length := by omega
        have HX := Lib.hid hx
        have HY := Lib.hid hy
        have HE := Lib.hid he
        have HS := Lib.hid hs
        clear hx hy he hs
        by_cases hxy : x = y
        · subst hxy
          have heq : ((x : Int) != (x : Int)) = false := by simp
          go_wp2
          refine wp_quiet (by kernel_rfl) (by kernel_rfl) ?_
          repeat (any_goals (first | go_big_quiet_step (fail) | quiet_step (fail)))
          refine wpQuiet_nil ?_
          rintro _ ⟨q, rfl⟩
          have HS2 := Lib.hid (HS.out.trans (more_same _ q) (fun _ _ h => h))
          go_wp2
          go_roundw
          case rel => exact ⟨k + 1, by omega, by go_num, by rw [take_snoc HX.out, take_snoc HY.out, HE.out], HS2.out⟩
          case measure => simp [intOf] <;> omega
        · have hne : ((x : Int) != (y : Int)) = true := by simp <;> omega
          have hfin : decide (xs = ys) = false := by
            rw [decide_eq_false_iff_not]
            rintro rfl
            exact hxy (Option.some.inj (HX.out.symm.trans HY.out))
          have HFIN := Lib.hid hfin
          clear hxy hfin
          go_wp2
          refine wp_quiet (by kernel_rfl) (by kernel_rfl) ?_
          repeat (any_goals (first | go_big_quiet_step (fail) | quiet_step (fail)))
          refine wpQuiet_nil ?_
          rintro _ ⟨q, rfl⟩
          have HS2 := Lib.hid (HS.out.trans (more_same _ q) (fun _ _ h => h))
          go_wp2
          go_ret
          exact ⟨ret_bool HFIN.out.symm, HS2.out⟩
      · obtain rfl : k = xs.length := by omega
        have hfin : decide (xs = ys) = true := by
          rw [decide_eq_true_iff]
          rw [List.take_of_length_le (Nat.le_refl _), List.take_of_length_le (by omega)] at he
          exact he
        have HFIN := Lib.hid hfin
        clear he hfin
        go_wp2
        go_ret
        exact ⟨ret_bool HFIN.out.symm, hs⟩
  · have hl' : ((xs.length : Int) != (ys.length : Int)) = true := by simp <;> omega
    have hfin : decide (xs = ys) = false := by
      rw [decide_eq_false_iff_not]
      rintro rfl
      exact hl rfl
    have HFIN := Lib.hid hfin
    clear hl hfin
    go_enter Try.func19, Try.ntmps19
    go_wp2
    go_ret
    exact ⟨ret_bool HFIN.out.symm, Frm.refl _ _⟩

end Go.Proofs.Ytakepdkokjecoaa


/- Shape: ShapeAlike: the walk. -/
namespace Go.Proofs.Ytakepdkokjecoaa
open Go.RowKit Go.Tk Go.Maps

theorem info_tb2 : (Try.prog.info? 37).map (fun i => (i.zero, i.size, i.bytes)) = some (some (.agg #[.int .i64 0, .slice none 0 0]), 2, 32) := by kernel_rfl
/-- the list so far: tables that came in, from the last one on -/
structure AK (w0 w : World) (xs : List Tb) (j K : Nat) (A : Option Addr) (D : Nat) (ts : List Tb) : Prop where
  same : Same w0 w
  own : Own w 37 2 Tb.cells A K D ts
  fresh : Fresh w0.heap.size A
  cnt : K = 2 * j
  old : ∀ t ∈ ts, t ∈ xs
  all : ∀ (i : Nat) (t : Tb), xs.length ≤ i + j → xs[i]? = some t → t ∈ ts
theorem AK.next {w0 w w' : World} {xs : List Tb} {j K : Nat} {A : Option Addr} {D : Nat} {ts : List Tb} (h : AK w0 w xs j K A D ts) (hs : Same w w') : AK w0 w' xs j K A D ts :=
  ⟨h.same.trans hs (fun _ _ h => h), Own.frm h.own hs (fun _ _ => id), h.fresh, h.cnt, h.old, h.all⟩
theorem AK.grow {w0 w wa wb : World} {xs : List Tb} {j K : Nat} {A : Option Addr} {D : Nat} {ts : List Tb} (h : AK w0 w xs j K A D ts) (hs : Same w wa) {g D' : Nat}
    (hg : wa.grownBy wb (Value.slice A K D).ownBlock) (hat : (A = some ⟨g, 0, none⟩ ∧ D' = D) ∨ (g = wa.heap.size ∧ wa.grownBy wb none)) : Same w0 wb ∧ Fresh w0.heap.size (some ⟨g, 0, none⟩) := by
  have h1 := h.next hs
  have hsz := h1.same.size
  refine ⟨h1.same.grown hg (fun g hg => .inr (h.fresh g (ownBlock_row.1 hg))), ?_⟩
  rcases hat with ⟨h2, _⟩ | ⟨h2, _⟩
  · rw [← h2]; exact h.fresh
  · exact fresh_some (by omega)
theorem AK.step {w0 w wa wb : World} {xs : List Tb} {j K q : Nat} {A : Option Addr} {D : Nat} {ts : List Tb} (h : AK w0 w xs j K A D ts) (hs : Same w wa) {x y : Tb} (hl : q + 1 + j = xs.length) (hx : xs[q]? = some x) (hy : y ∈ xs) {g D' : Nat}
    (hg : wa.grownBy wb (Value.slice A K D).ownBlock) (ho : Own wb 37 2 Tb.cells (some ⟨g, 0, none⟩) (K + 2) D' (ts ++ [x, y])) (hat : (A = some ⟨g, 0, none⟩ ∧ D' = D) ∨ (g = wa.heap.size ∧ wa.grownBy wb none)) : AK w0 wb xs (j + 1) (K + 2) (some ⟨g, 0, none⟩) D' (ts ++ [x, y]) := by
  obtain ⟨h1, h2⟩ := h.grow hs hg hat
  have hc := h.cnt
  refine ⟨h1, ho, h2, by omega, fun t ht => ?_, fun i t hi ht => ?_⟩
  · rcases List.mem_append.1 ht with h3 | h3
    · exact h.old t h3
    · rcases List.mem_cons.1 h3 with rfl | h3
      · exact List.mem_of_getElem? hx
      · obtain rfl := List.mem_singleton.1 h3
        exact hy
  · rcases Nat.lt_or_ge q i with h3 | h3
    · exact List.mem_append_left _ (h.all i t (by omega) ht)
    · obtain rfl : i = q := by omega
      rw [hx] at ht
      obtain rfl := Option.some.inj ht
      exact List.mem_append_right _ List.mem_cons_self
theorem AK.fin {w0 w wa wb : World} {xs : List Tb} {nn K : Nat} {A : Option Addr} {D : Nat} {ts : List Tb} (h : AK w0 w xs xs.length K A D ts) (hs : Same w wa) {A1 A2 : Option Addr} {C1 C2 : Nat} (h1 : OwnW wa A1 (cst nn true).length C1 (cst nn true)) (h2 : OwnW wa A2 (cst nn false).length C2 (cst nn false)) {g D' : Nat}
    (hg : wa.grownBy wb (Value.slice A K D).ownBlock) (hat : (A = some ⟨g, 0, none⟩ ∧ D' = D) ∨ (g = wa.heap.size ∧ wa.grownBy wb none)) :
    Alk nn xs (ts ++ [⟨(nn : Int), A1, C1, cst nn true⟩, ⟨(nn : Int), A2, C2, cst nn false⟩]) ∧ Same w0 wb ∧ ∀ w', Same wb w' → (∀ t ∈ xs, TbOk w' t) → ∀ t ∈ ts ++ [⟨(nn : Int), A1, C1, cst nn true⟩, ⟨(nn : Int), A2, C2, cst nn false⟩], TbOk w' t := by
  have hn := h.next hs
  have kp : ∀ {B : Option Addr} {N C : Nat} {ys : List Nat}, OwnW wa B N C ys → OwnW wb B N C ys := fun ho => Own.keptBy ho hg (fun b hb hA => Own.ne_own ho hn.own (by decide) b hA (ownBlock_row.1 hb))
  refine ⟨⟨fun x hx => ?_, fun t ht => ?_⟩, (h.grow hs hg hat).1, fun w' hs' hok t ht => ?_⟩
  · obtain ⟨i, hi⟩ := List.getElem?_of_mem hx
    exact List.mem_append_left _ (h.all i x (by omega) hi)
  · rcases List.mem_append.1 ht with h3 | h3
    · exact .inl (h.old t h3)
    · rcases List.mem_cons.1 h3 with rfl | h3
      · exact .inr ⟨rfl, true, rfl⟩
      · obtain rfl := List.mem_singleton.1 h3
        exact .inr ⟨rfl, false, rfl⟩
  · rcases List.mem_append.1 ht with h3 | h3
    · exact hok t (h.old t h3)
    · rcases List.mem_cons.1 h3 with rfl | h3
      · exact ⟨Sl.same ((kp h1).sl ucell_len) hs', fun z hz => tab_lt z hz⟩
      · obtain rfl := List.mem_singleton.1 h3
        exact ⟨Sl.same ((kp h2).sl ucell_len) hs', fun z hz => tab_lt z hz⟩
theorem eff_world {P : Program} {ops : Array Oper} {C : World → Prop} {Q : Exit → Act → World → Prop} {l : List Oper} {a : Act} {w : World} (h : ∀ w', w' = w → wpEff P ops C Q l a w') : wpEff P ops C Q l a w := h w rfl
set_option maxRecDepth 100000 in
set_option maxHeartbeats 16000000 in
theorem alike_walk (AL : Option Addr) (n C : Nat) (xs : List Tb) (Ao : Option Addr) (Lo Co : Nat) (os : List Int) (w : World) (h : Sl w 2 Tb.cells AL n xs) (hok : ∀ t ∈ xs, TbOk w t) (hn : n ≤ 1048576) (ho : IL w Ao Lo os) (hLo : Lo * 8 ≤ 140737488351232) :
    Calls Try.prog 7 #[.slice AL n C, .slice Ao Lo Co] w fun e w' => e = .returned (.bool true) ∧ Below w.heap.size w w' := by
  obtain rfl := ho.len
  have H := Lib.hid h
  have HXL := Lib.hid h.len
  have HOK := Lib.hid hok
  have HO := Lib.hid ho
  have HP := Lib.hid (fun w' (hs : Same w w') => profile_any AL n C xs Ao os.length Co os w' (Sl.same h hs) (fun t ht => (hok t ht).same hs) (by omega) (Sl.same ho hs) hLo)
  clear h hok ho
  by_cases he : prE xs os = 0
  · by_cases hn0 : n = 0
    · have hnz : ((n : Int) == 0) = true := by rw [hn0]; rfl
      rw [he] at HP
      clear he hn0
      go_enter Try.func7, Try.ntmps7
      go_wp2_with (fail)
      refine (sawake_any w).mono ?_
      rintro e w1 ⟨rfl, hs⟩
      have HS := Lib.hid hs
      clear hs
      go_wp2_with (fail)
      refine (HP.out w1 HS.out).mono ?_
      rintro e w2 ⟨Ap, Cp, rfl, hNT⟩
      have HFIN := Lib.hid ((HS.out.trans hNT.2.2 (fun _ _ h => h)).to_below (Nat.le_refl _) (fun _ _ => id))
      clear hNT
      go_wp2
      go_ret
      exact ⟨rfl, HFIN.out⟩
    · have hnz : ((n : Int) == 0) = false := by rw [beq_eq_false_iff_ne]; omega
      obtain ⟨h16, hper⟩ := prE_16 he
      have hxe : xs ≠ [] := by
        rintro rfl
        have := HXL.out
        simp at this
        omega
      obtain ⟨ys, hys⟩ : ∃ z, z = prL xs os := ⟨_, rfl⟩
      obtain ⟨zs, hzs⟩ : ∃ z, z = paR xs := ⟨_, rfl⟩
      have hyl : ys.length = os.length := by rw [hys]; unfold prL; rw [if_pos he, proL_len]
      have hzl : zs.length ≤ 16 := by
        rw [hzs]; unfold paR
        split
        · rw [prRow_len, (fm_of_ok he).2 hxe]; omega
        · simp
      have hlaw := Lib.hid (fun (ts : List Tb) (h : Alk os.length xs ts) => show prE ts os = 0 ∧ prL ts os = ys ∧ paE ts = 0 ∧ paR ts = zs by
        obtain ⟨e1, e2, _, e4, e5⟩ := alike_law he hxe h
        rw [hys, hzs]
        exact ⟨e1, e2, e4, e5⟩)
      have hpe : paE xs = 0 := (alike_law he hxe ⟨fun _ h => h, fun _ h => .inl h⟩).2.2.1
      have hpa : ∀ w', Same w w' → Calls Try.prog 17 #[.slice AL n C] w' (fun e w2 => ∃ A D, e = .returned (.tuple #[.slice A zs.length D, .int .i64 0]) ∧ WL w2 A zs.length zs ∧ Same w' w2) := fun w' hs => by
        have h1 := pairs_any AL n C xs w' (Sl.same H.out hs) (fun t ht => (HOK.out t ht).same hs) (by omega)
        rw [hpe, ← hzs] at h1
        exact h1.mono fun e w2 ⟨A, D, h2, h3⟩ => ⟨A, D, h2, h3.wl, h3.2.2⟩
      have hpt : ∀ (B : Option Addr) (m D : Nat) (ts : List Tb) w', Alk os.length xs ts → Sl w' 2 Tb.cells B m ts → (∀ t ∈ ts, TbOk w' t) → m ≤ 4000000 → Calls Try.prog 17 #[.slice B m D] w' (fun e w2 => ∃ A D, e = .returned (.tuple #[.slice A zs.length D, .int .i64 0]) ∧ WL w2 A zs.length zs ∧ Same w' w2) := fun B m D ts w' hk hs hok hm => by
        have h1 := pairs_any B m D ts w' hs hok (by omega)
        obtain ⟨_, _, e3, e4⟩ := hlaw.out ts hk
        rw [e3, e4] at h1
        exact h1.mono fun e w2 ⟨A, D, h2, h3⟩ => ⟨A, D, h2, h3.wl, h3.2.2⟩
      have hpf : ∀ (B : Option Addr) (m D : Nat) (ts : List Tb) w', Alk os.length xs ts → Sl w' 2 Tb.cells B m ts → (∀ t ∈ ts, TbOk w' t) → m ≤ 4000000 → Same w w' → Calls Try.prog 11 #[.slice B m D, .slice Ao os.length Co] w' (fun e w2 => ∃ A C, e = .returned (.tuple #[.slice A os.length C, .int .i64 0]) ∧ IL w2 A os.length ys ∧ Same w' w2) := fun B m D ts w' hk hs hok hm hsw => by
        have h1 := profile_any B m D ts Ao os.length Co os w' hs hok (by omega) (Sl.same HO.out hsw) hLo
        obtain ⟨e1, e2, _, _⟩ := hlaw.out ts hk
        rw [e1, e2] at h1
        refine h1.mono fun e w2 ⟨A, C, h1, h2⟩ => ?_
        have h3 := Own.il h2.1
        rw [hyl] at h1 h3
        exact ⟨A, C, h1, h3, h2.2.2⟩
      rw [he, ← hys] at HP
      have hP2 : ∀ w', Same w w' → Calls Try.prog 11 #[.slice AL n C, .slice Ao os.length Co] w' (fun e w2 => ∃ A C, e = .returned (.tuple #[.slice A os.length C, .int .i64 0]) ∧ IL w2 A os.length ys ∧ Same w' w2) := fun w' hs => (HP.out w' hs).mono fun e w2 ⟨A, C, h1, h2⟩ => by
        have h3 := Own.il h2.1
        rw [hyl] at h1 h3
        exact ⟨A, C, h1, h3, h2.2.2⟩
      have HP2 := Lib.hid hP2
      have HPA := Lib.hid hpa
      have HPT := Lib.hid hpt
      have HPF := Lib.hid hpf
      have HZL := Lib.hid hzl
      have H16 := Lib.hid h16
      have hnp : 0 < n := by omega
      clear hP2 HP hper hyl hzl hys hzs he hpa hpt hpf hpe hlaw hxe hn0 h16
      go_enter Try.func7, Try.ntmps7
      go_wp2_with (fail)
      refine (sawake_any w).mono ?_
      rintro e w1 ⟨rfl, hs⟩
      have HS := Lib.hid hs
      clear hs
      go_wp2_with (fail)
      refine (HP2.out w1 HS.out).mono ?_
      rintro e w2 ⟨Ap, Cp, rfl, hil, hs⟩
      have HIL := Lib.hid hil
      replace HS := Lib.hid (HS.out.trans hs (fun _ _ h => h))
      clear hs hil HP2
      have HAK := Lib.hid (show AK w2 w2 xs 0 0 none 0 [] from ⟨Frm.refl _ _, Own.nil _ _ _ _, fresh_none _, rfl, fun t ht => (by cases ht), fun i t hi ht => (by have := lt_of_get ht; omega)⟩)
      go_wp2
      go_loopw [7, 8] (fun l i wi => ∃ (j K : Nat) (A : Option Addr) (D : Nat) (ts : List Tb) (q : Int), q + 1 + j = n ∧ -1 ≤ q ∧ i = .int .i64 q ∧ l = .slice A K D ∧ AK w2 wi xs j K A D ts) (fun _ i _ => (intOf i + 1).toNat)
      case atStart => exact ⟨0, 0, none, 0, [], (n : Int) - 1, by omega, by omega, rfl, rfl, HAK.out⟩
      case round =>
        clear HAK
        obtain ⟨j, K, A, D, ts, q, hq, hq1, rfl, rfl, hak⟩ := hrel
        by_cases hq0 : 0 ≤ q
        · obtain ⟨p, rfl⟩ := Int.eq_ofNat_of_zero_le hq0
          have hp : p < n := by omega
          obtain ⟨x, hx⟩ : ∃ t, xs[p]? = some t := ⟨_, List.getElem?_eq_getElem (by rw [← HXL.out]; exact hp)⟩
          obtain ⟨y, hy⟩ : ∃ t, xs[n - 1 - p]? = some t := ⟨_, List.getElem?_eq_getElem (by rw [← HXL.out]; omega)⟩
          obtain ⟨bl, o, hA, hbl, hc⟩ := (Sl.same H.out (HS.out.trans hak.same (fun _ _ h => h))).get p x hx
          obtain ⟨bl0, o0, hA0, hbl0, _⟩ := H.out.get p x hx
          rw [hA] at hA0
          simp only [Option.some.injEq, Addr.mk.injEq, and_true] at hA0
          obtain ⟨rfl, rfl⟩ := hA0
          obtain ⟨bl2, o2, hA2, hbl2, hc2⟩ := (Sl.same H.out (HS.out.trans hak.same (fun _ _ h => h))).get (n - 1 - p) y hy
          rw [hA] at hA2
          simp only [Option.some.injEq, Addr.mk.injEq, and_true] at hA2
          obtain ⟨rfl, rfl⟩ := hA2
          subst hA
          have c0 : wr.cell? ⟨bl, o + p * 2, none⟩ = some (.int .i64 x.N) := hc 0 (by omega)
          have c1 : wr.cell? ⟨bl, o + p * 2 + 1, none⟩ = some (.slice x.A x.ws.length x.C) := hc 1 (by omega)
          have d0 : wr.cell? ⟨bl, o + (n - 1 - p) * 2, none⟩ = some (.int .i64 y.N) := hc2 0 (by omega)
          have d1 : wr.cell? ⟨bl, o + (n - 1 - p) * 2 + 1, none⟩ = some (.slice y.A y.ws.length y.C) := hc2 1 (by omega)
          have hnS : ¬ rowOf A bl := fun h => by have := hak.fresh bl h; have := HS.out.size; have h2 := hbl0; omega
          have HX := Lib.hid hx
          have HY := Lib.hid (List.mem_of_getElem? hy)
          have HAK := Lib.hid hak
          have HQ := Lib.hid (show p + 1 + j = xs.length by have := HXL.out; omega)
          have HK := Lib.hid (show K ≤ 2097152 by have := hak.cnt; omega)
          have hp1 : (p : Int) < n := by omega
          have hm0 : (0 : Int) ≤ (n : Int) - 1 - p := by omega
          have hm1 : (n : Int) - 1 - p < n := by omega
          clear hc hc2 hx hy hak hbl2 hbl0 hq hq1
          go_upto_region 10 with fail
          refine wp_mixS (fun b => rowOf A b) [0, 1, 2, 3, 4, 5, 6, 7, 8, 9, 10, 11, 12] [13, 14, 15] (by kernel_rfl) (by kernel_rfl) ?_
          simp only [pick, List.map_cons, List.map_nil, List.getD_cons_zero, List.getD_cons_succ]
          repeat (any_goals (first | go_big_quiet_step (fail) | quiet_step (fail)))
          refine wpQuiet_nil ?_
          refine wpEff_plain rfl (fun K' hK => ?_)
          go_simp
          refine hK _ _ (Lat.mk_ (((Frm.refl _ _).drew).alloc _)) ?_
          clear hK K' c0 c1 d0 d1
          refine eff_world fun wd hwd => ?_
          have hsd : Same wr wd := by rw [hwd]; exact ((Frm.refl _ _).alloc _).drew
          have hSd : Frm (fun b => rowOf A b) wr wd := by rw [hwd]; exact ((Frm.refl _ _).alloc _).drew
          have hNc := (Blk.new wr 37 #[.int .i64 x.N, .slice x.A x.ws.length x.C, .int .i64 y.N, .slice y.A y.ws.length y.C]).drew
          rw [← hwd] at hNc
          clear hwd
          refine wpEff_plain rfl (fun K' hK => ?_)
          refine Own.grow (f := Tb.cells) (.tmp 37) (.tmp 50) _ rfl Try.underlying22 info_tb2 rfl rfl (Own.frm HAK.out.own hsd (fun _ _ => id)) (fun _ => rfl) [x, y] (by simp) ⟨wr.heap.size, 0, none⟩ 2 rfl (fun j u hj => news_of_blk hNc j u hj) (by simp [Tb.cells, Value.oneCell']) (by have := HK.out; simp [maxLen] <;> omega) (by have := HK.out; simp <;> omega) ?_
          intro g D' we hOd _ hgr hat
          refine hK _ _ (Lat.mk_ (hSd.grown hgr (fun g hg => .inl (ownBlock_row.1 hg)))) ?_
          clear hK K' hSd
          refine wpEff_last ?_
          have hst := HAK.out.step hsd HQ.out HX.out HY.out hgr hOd hat
          have HN2 := Lib.hid hst
          clear hgr hOd hat hNc hsd hst HAK
          go_wp2
          go_roundw
          case rel => exact ⟨j + 1, K + 2, some ⟨g, 0, none⟩, D', _, (p : Int) - 1, by have := HQ.out; have := HXL.out; omega, by omega, by go_num, rfl, HN2.out⟩
          case measure => simp [intOf]
        · obtain rfl : q = -1 := by omega
          obtain rfl : j = n := by omega
          have HAK := Lib.hid (show AK w2 wr xs xs.length K A D ts by rw [← HXL.out]; exact hak)
          have HK := Lib.hid (show K ≤ 2097152 by have := hak.cnt; omega)
          clear hak hq hq1 hq0
          go_upto_region 11 with fail
          refine wp_region_lit ?_
          refine wpList_read 3 ?_
          simp only [List.take_succ_cons, List.take_zero, List.drop_succ_cons, List.drop_zero]
          repeat (any_goals (first | go_big_quiet_step (fail) | quiet_step (fail)))
          refine wpQuiet_nil ?_
          refine wpList_plain rfl fun K1 hK => ?_
          go_simp
          refine (const5_any os.length true wr H16.out).mono ?_
          rintro e w3 ⟨A1, C1, rfl, hNT⟩
          refine hK _ _ ?_
          clear hK K1
          replace HAK := Lib.hid (HAK.out.next hNT.2.2)
          have HO1 := Lib.hid hNT.1
          clear hNT
          refine wpList_read 2 ?_
          simp only [List.take_succ_cons, List.take_zero, List.drop_succ_cons, List.drop_zero]
          repeat (any_goals (first | go_big_quiet_step (fail) | quiet_step (fail)))
          refine wpQuiet_nil ?_
          refine wpList_plain rfl fun K2 hK => ?_
          go_simp
          refine (const5_any os.length false w3 H16.out).mono ?_
          rintro e w4 ⟨A2, C2, rfl, hNT⟩
          refine hK _ _ ?_
          clear hK K2
          replace HAK := Lib.hid (HAK.out.next hNT.2.2)
          replace HO1 := Lib.hid (Own.frm HO1.out hNT.2.2 (fun _ _ => id))
          have HO2 := Lib.hid hNT.1
          obtain ⟨L1, hL1⟩ : ∃ z, z = (tab os.length fun _ => true).length := ⟨_, rfl⟩
          obtain ⟨L2, hL2⟩ : ∃ z, z = (tab os.length fun _ => false).length := ⟨_, rfl⟩
          rw [← hL1, ← hL2]
          have HL1 := Lib.hid hL1
          have HL2 := Lib.hid hL2
          clear hNT hL1 hL2
          refine wpList_plain rfl fun K0 hK => ?_
          go_simp
          refine hK _ _ ?_
          clear hK K0
          refine list_world fun wd hwd => ?_
          have hsd : Same w4 wd := by rw [hwd]; exact (Frm.refl _ _).alloc _
          have hNc := Blk.new w4 37 #[.int .i64 os.length, .slice A1 L1 C1, .int .i64 os.length, .slice A2 L2 C2]
          rw [← hwd] at hNc
          clear hwd
          refine wpList_plain rfl fun K0 hK => ?_
          refine Own.grow (f := Tb.cells) (.tmp 52) (.tmp 59) _ rfl Try.underlying22 info_tb2 rfl rfl (Own.frm HAK.out.own hsd (fun _ _ => id)) (fun _ => rfl) [⟨(os.length : Int), A1, C1, cst os.length true⟩, ⟨(os.length : Int), A2, C2, cst os.length false⟩] (by simp) ⟨w4.heap.size, 0, none⟩ 2 rfl (fun j u hj => news_of_blk (by have := hNc; rw [HL1.out, HL2.out] at this; exact this) j u hj) (by simp [Tb.cells, Value.oneCell']) (by have := HK.out; simp [maxLen] <;> omega) (by have := HK.out; simp <;> omega) ?_
          intro g D' we hOd _ hgr hat
          refine hK _ _ ?_
          clear hK K0
          obtain ⟨hal, hsm, htb⟩ := HAK.out.fin hsd (Own.frm HO1.out hsd (fun _ _ => id)) (Own.frm HO2.out hsd (fun _ _ => id)) hgr hat
          obtain ⟨ls, hls⟩ : ∃ z, z = ts ++ [⟨(os.length : Int), A1, C1, cst os.length true⟩, ⟨(os.length : Int), A2, C2, cst os.length false⟩] := ⟨_, rfl⟩
          rw [← hls] at hal htb hOd
          have HAL := Lib.hid hal
          replace HS := Lib.hid (HS.out.trans hsm (fun _ _ h => h))
          replace HIL := Lib.hid (Sl.same HIL.out hsm)
          have HTB := Lib.hid (fun w' (hs : Same we w') => htb w' hs (fun t ht => (HOK.out t ht).same (HS.out.trans hs (fun _ _ h => h))))
          have HSL := Lib.hid (show Sl we 2 Tb.cells (some ⟨g, 0, none⟩) (K + 2) ls from Own.sl (m := 2) (f := Tb.cells) (fun _ => rfl) hOd)
          clear hgr hOd hat hNc hsd hal hsm htb hls HAK HO1 HO2 HL1 HL2
          go_wp2_with (fail)
          refine (HPF.out (some ⟨g, 0, none⟩) (K + 2) D' ls we HAL.out HSL.out (HTB.out we (Frm.refl _ _)) (by have := HK.out; omega) HS.out).mono ?_
          rintro e w5 ⟨Aq, Cq, rfl, hil, hs⟩
          have HQL := Lib.hid hil
          replace HS := Lib.hid (HS.out.trans hs (fun _ _ h => h))
          replace HIL := Lib.hid (Sl.same HIL.out hs)
          have HS5 := Lib.hid hs
          clear hs hil HPF
          go_wp2_with (fail)
          refine (HPA.out w5 HS.out).mono ?_
          rintro e w6 ⟨Aa, Da, rfl, hwl, hs⟩
          have HWA := Lib.hid hwl
          replace HS := Lib.hid (HS.out.trans hs (fun _ _ h => h))
          replace HIL := Lib.hid (Sl.same HIL.out hs)
          replace HQL := Lib.hid (Sl.same HQL.out hs)
          have HS6 := Lib.hid (HS5.out.trans hs (fun _ _ h => h))
          clear hs hwl HPA HS5
          go_wp2_with (fail)
          refine (HPT.out (some ⟨g, 0, none⟩) (K + 2) D' ls w6 HAL.out (Sl.same HSL.out HS6.out) (HTB.out w6 HS6.out) (by have := HK.out; omega)).mono ?_
          rintro e w7 ⟨Ab, Db, rfl, hwl, hs⟩
          have HWB := Lib.hid hwl
          replace HS := Lib.hid (HS.out.trans hs (fun _ _ h => h))
          replace HIL := Lib.hid (Sl.same HIL.out hs)
          replace HQL := Lib.hid (Sl.same HQL.out hs)
          replace HWA := Lib.hid (Sl.same HWA.out hs)
          clear hs hwl HPT HS6
          go_wp2_with (fail)
          refine (psame_any Ap Aq os.length os.length Cp Cq ys ys w7 HIL.out HQL.out hLo hLo).mono ?_
          rintro e w8 ⟨rfl, hs⟩
          rw [show decide (ys = ys) = true by simp]
          replace HS := Lib.hid (HS.out.trans hs (fun _ _ h => h))
          replace HWA := Lib.hid (Sl.same HWA.out hs)
          replace HWB := Lib.hid (Sl.same HWB.out hs)
          clear hs
          go_wp2_with (fail)
          refine (sets_any Aa Ab zs.length zs.length Da Db zs zs w8 HWA.out HWB.out (by have := HZL.out; omega) (by have := HZL.out; omega)).mono ?_
          rintro e w9 ⟨rfl, hs⟩
          rw [show decide (zs = zs) = true by simp]
          have HFIN := Lib.hid ((HS.out.trans hs (fun _ _ h => h)).to_below (Nat.le_refl _) (fun _ _ => id))
          clear hs
          go_wp2
          go_ret
          exact ⟨rfl, HFIN.out⟩
  · obtain ⟨er, her⟩ : ∃ z, z = prE xs os := ⟨_, rfl⟩
    rw [← her] at HP he
    have hne : (er != 0) = true := by simpa using he
    clear her he
    go_enter Try.func7, Try.ntmps7
    go_wp2_with (fail)
    refine (sawake_any w).mono ?_
    rintro e w1 ⟨rfl, hs⟩
    have HS := Lib.hid hs
    clear hs
    go_wp2_with (fail)
    refine (HP.out w1 HS.out).mono ?_
    rintro e w2 ⟨Ap, Cp, rfl, hNT⟩
    have HFIN := Lib.hid ((HS.out.trans hNT.2.2 (fun _ _ h => h)).to_below (Nat.le_refl _) (fun _ _ => id))
    clear hNT
    go_wp2
    go_ret
    exact ⟨rfl, HFIN.out⟩
end Go.Proofs.Ytakepdkokjecoaa


/- The walk of ShAlk beside the given rows. -/
namespace Go.Proofs.Ytakepdkokjecoaa
open Go.RowKit Go.Tk
theorem sl_vals {w : World} {A : Option Addr} {n : Nat} {xs : List {t : Tb // TbIn w t}} (h : Sl w 2 (fun x : {t : Tb // TbIn w t} => x.1.cells) A n xs) : Sl w 2 Tb.cells A n (xs.map (·.1)) := by
  refine ⟨by rw [List.length_map]; exact h.len, fun i t hi => ?_⟩
  rw [List.getElem?_map] at hi
  obtain ⟨x, hx, rfl⟩ := Option.map_eq_some_iff.1 hi
  exact h.get i x hx
theorem ok_vals {w : World} {xs : List {t : Tb // TbIn w t}} : ∀ t ∈ xs.map (·.1), TbOk w t := fun t ht => by
  obtain ⟨x, _, rfl⟩ := List.mem_map.1 ht
  exact x.2.ok
theorem bulk_pos {H : Type} : ∀ d : DataW H, 1 ≤ Rows.uptoBulk d := by
  intro d
  unfold Rows.uptoBulk
  split <;> omega
theorem bulk_len {H : Type} : ∀ ds : List (DataW H), ds.length ≤ Rows.uptoBulkAll ds
  | [] => Nat.zero_le _
  | d :: ds => by
    have h1 := bulk_len ds
    have h2 := bulk_pos d
    unfold Rows.uptoBulkAll
    rw [List.length_cons]
    omega
theorem bulk_mem {H : Type} {d : DataW H} : ∀ {ds : List (DataW H)}, d ∈ ds → Rows.uptoBulk d ≤ Rows.uptoBulkAll ds
  | [], h => by cases h
  | e :: ds, h => by
    unfold Rows.uptoBulkAll
    rcases List.mem_cons.1 h with rfl | h
    · omega
    · have := bulk_mem h
      omega
theorem upto_len {H : Type} {ds : List (DataW H)} (h : Rows.uptoSmall H ds = true) : ∀ xs ys, DataW.slice xs ys ∈ ds → xs.length ≤ 1048576 := fun xs ys hm => by
  have h1 := bulk_mem hm
  have h2 := bulk_len xs
  unfold Rows.uptoSmall at h
  rw [decide_eq_true_eq] at h
  unfold Rows.uptoBulk at h1
  omega
end Go.Proofs.Ytakepdkokjecoaa
