/- Truth tables: laid of the program. -/
import Derived.Test.YtlggmoghgoeiiaaTrForm2
namespace Go.Proofs.Ytlggmoghgoeiiaa
open Go.RowKit Go.Tk

/-- a table of words of its own -/
def NewT (w : World) (ws : List Nat) (A : Option Addr) (C : Nat) (w' : World) : Prop := OwnW w' A ws.length C ws ∧ Fresh w.heap.size A ∧ Same w w'
def RetT (w : World) (N : Int) (ws : List Nat) (e : Ending) (w' : World) : Prop := ∃ A C, e = .returned (.agg #[.int .i64 N, .slice A ws.length C]) ∧ NewT w ws A C w'
def RetTE (w : World) (N : Int) (ws : List Nat) (err : Int) (e : Ending) (w' : World) : Prop := ∃ A C, e = .returned (.tuple #[.agg #[.int .i64 N, .slice A ws.length C], .int .i64 err]) ∧ NewT w ws A C w'
theorem NewT.nil {w w' : World} (h : Same w w') : NewT w [] none 0 w' := ⟨Own.nil _ _ _ _, fresh_none _, h⟩
theorem NewT.wl {w w' : World} {ws : List Nat} {A : Option Addr} {C : Nat} (h : NewT w ws A C w') : WL w' A ws.length ws := h.1.sl ucell_len
theorem info_u64 : (Try.prog.info? 38).map (fun i => (i.zero, i.size, i.bytes)) = some (some (.int .u64 0), 1, 8) := by kernel_rfl
/-- words laid so far -/
def laidL (n : Nat) (g : Nat → Nat) (k : Nat) : List Nat := (List.range (nw n)).map fun i => if i < k then g i &&& fullN n else 0
theorem laidL_len (n : Nat) (g : Nat → Nat) (k : Nat) : (laidL n g k).length = nw n := by simp [laidL]
theorem laidL_zero (n : Nat) (g : Nat → Nat) : laidL n g 0 = List.replicate (nw n) 0 := by
  apply List.ext_getElem?
  intro i
  rcases Nat.lt_or_ge i (nw n) with h | h
  · simp [laidL, h]
  · rw [List.getElem?_eq_none (by rw [laidL_len]; exact h), List.getElem?_eq_none (by simpa using h)]
theorem laidL_set {n : Nat} {g : Nat → Nat} {k : Nat} (h : k < nw n) : (laidL n g k).set k (g k &&& fullN n) = laidL n g (k + 1) := by
  apply List.ext_getElem?
  intro i
  rcases Nat.lt_or_ge i (nw n) with hi | hi
  · rw [List.getElem?_set, laidL_len]
    simp only [laidL, List.getElem?_map, List.getElem?_range hi, Option.map_some]
    split
    · rename_i he; subst he; simp
    · rename_i he
      congr 1
      by_cases h1 : i < k
      · rw [if_pos h1, if_pos (by omega)]
      · rw [if_neg h1, if_neg (by omega)]
  · rw [List.getElem?_eq_none (by simp [laidL_len, hi]), List.getElem?_eq_none (by rw [laidL_len]; exact hi)]
theorem laidL_full (n : Nat) (g : Nat → Nat) : laidL n g (nw n) = (List.range (nw n)).map fun i => g i &&& fullN n := by
  unfold laidL
  apply List.map_congr_left
  intro i hi
  rw [if_pos (List.mem_range.1 hi)]
/-- a closure that tells the words -/
def Tells (w : World) (n : Nat) (fid : FuncId) (caps : Array Value) (g : Nat → Nat) : Prop :=
  ∀ i : Nat, i < nw n → g i < 18446744073709551616 ∧ ∀ w', Same w w' → Calls Try.prog fid (#[.int .i64 i] ++ caps) w' fun e w'' => e = .returned (.int .u64 (g i : Nat)) ∧ Same w' w''

theorem wp_post {P : Program} {fn : Func} {R : Ending → World → Prop} {x : Exit} {a : Act} {w : World} (h : ∀ w1, w1 = w → bodyPost P fn R x a w1) : bodyPost P fn R x a w := h w rfl
set_option maxHeartbeats 4000000 in
theorem laid_any (n : Nat) (fid : FuncId) (caps : Array Value) (g : Nat → Nat) (w : World) (hn : n ≤ 16) (hen : ∀ (args : Array Value) (w : World), (callFunc fid args).run Try.prog w = .ok (.enter fid args) w) (hcl : Tells w n fid caps g) :
    Calls Try.prog 63 #[.int .i64 n, .func (.func fid) #[] caps] w (RetT w n ((List.range (nw n)).map fun i => g i &&& fullN n)) := by
  have hmk := fun w => run_make_n (P := Try.prog) Try.underlying22 info_u64 .i64 .i64 (nw n) (show 8 * nw n ≤ 281474976710656 by have := nw_le hn; omega) (show nw n ≤ 9223372036854775807 by have := nw_le hn; omega) w
  have HCL := Lib.hid hcl
  have hnl := nw_le hn
  have hwd := fun w => words_any n w hn
  have hfu := fun w => full_any n w hn
  have hfl := fullN_lt n
  have hrl := laidL_full n g
  have HRL := Lib.hid hrl
  have hset : ∀ k, k < nw n → (laidL n g k).set k (g k &&& fullN n) = laidL n g (k + 1) := fun k h => laidL_set h
  have hll := laidL_len n g
  have hcl' := hcl
  have hz := laidL_zero n g
  unfold Tells at hcl'
  rw [← hrl]
  obtain ⟨K, hK⟩ : ∃ K, nw n = K := ⟨_, rfl⟩
  obtain ⟨fu, hfu'⟩ : ∃ fu, fullN n = fu := ⟨_, rfl⟩
  rw [hK] at hmk hnl hwd hset hll hcl' hz ⊢
  rw [hfu'] at hfu hfl hset
  have HLL := Lib.hid hll
  have HZ := Lib.hid hz
  have HSET := Lib.hid hset
  have HWD := Lib.hid hwd
  have HFU := Lib.hid hfu
  have HC := Lib.hid hcl'
  clear hwd hfu hrl hset hcl' hcl HCL hK hfu' HRL hll hz
  go_enter Try.func63, Try.ntmps63
  go_wp2_with (fail)
  refine call_world fun w1 hw1 => ?_
  refine (HWD.out w1).mono ?_
  rintro e w2 ⟨rfl, rfl⟩
  go_upto_region 2 with fail
  refine wp_world fun wb hwb => ?_
  subst hw1
  have hsb : Same w wb := by rw [hwb]; exact (((Frm.refl _ _).alloc _).alloc _).alloc _
  have hBR : Blk wb w.heap.size 24 #[.int .i64 0, .slice none 0 0] := by rw [hwb]; exact ((Blk.new w _ _).alloc _).alloc _
  have hBT : Blk wb (w.heap.size + 1 + 1) 24 #[.int .i64 n, .slice (some ⟨w.heap.size + 1, 0, none⟩) K K] := by
    rw [hwb]
    have := Blk.new ((w.alloc (.cells #[.int .i64 0, .slice none 0 0] 24)).alloc (.cells (madeCells #[.int .u64 0] K) 38)) 24 #[.int .i64 n, .slice (some ⟨w.heap.size + 1, 0, none⟩) K K]
    simpa using this
  have hOD : OwnW wb (some ⟨w.heap.size + 1, 0, none⟩) K K (laidL n g 0) := by
    rw [hwb, HZ.out]
    have := Own.ofMade (m := 1) (w.alloc (.cells #[.int .i64 0, .slice none 0 0] 24)) 38 ucell (fun _ => rfl) (by decide) 0 K (show K ≤ 9223372036854775807 by omega) rfl
    have h2 := Own.frm this ((Frm.refl (fun _ => False) _).alloc (.cells #[.int .i64 n, .slice (some ⟨w.heap.size + 1, 0, none⟩) K K] 24)) (fun _ _ => id)
    simpa [ucell] using h2
  clear hwb hmk
  obtain ⟨T, hT⟩ : ∃ T, w.heap.size + 1 + 1 = T := ⟨_, rfl⟩
  rw [hT] at hBT ⊢
  obtain ⟨D, hD⟩ : ∃ D, w.heap.size + 1 = D := ⟨_, rfl⟩
  rw [hD] at hBT hOD ⊢
  have hnDT : D ≠ T := by omega
  have hnRT : w.heap.size ≠ T := by omega
  have hnRD : w.heap.size ≠ D := by omega
  have hwD : w.heap.size ≤ D := by omega
  have hwT : w.heap.size ≤ T := by omega
  clear hD hT
  have hc1 : wb.cell? ⟨T, 1, none⟩ = some (.slice (some ⟨D, 0, none⟩) K K) := hBT.cell 1
  have hlt0 := hBT.lt
  have HBR := Lib.hid hBR
  have HBT := Lib.hid hBT
  have HOD := Lib.hid hOD
  have HSB := Lib.hid hsb
  clear hBR hBT hOD hsb
  go_wp2
  go_loopw [15] (fun i wr => ∃ k : Nat, k ≤ K ∧ i = .int .i64 k ∧ Same w wr ∧ Blk wr w.heap.size 24 #[.int .i64 0, .slice none 0 0] ∧ Blk wr T 24 #[.int .i64 n, .slice (some ⟨D, 0, none⟩) K K] ∧ OwnW wr (some ⟨D, 0, none⟩) K K (laidL n g k)) (fun i _ => K - (intOf i).toNat)
  case atStart => exact ⟨0, by omega, rfl, HSB.out, HBR.out, HBT.out, HOD.out⟩
  case round =>
    clear HBR HBT HOD HSB hc1 hlt0
    obtain ⟨k, hk, rfl, hs, hBR, hBT, hOD⟩ := hrel
    have HS := Lib.hid hs
    have HBR := Lib.hid hBR
    have HBT := Lib.hid hBT
    have HOD := Lib.hid hOD
    have hcT0 : wr.cell? ⟨T, 0, none⟩ = some (.int .i64 n) := hBT.cell 0
    have hcT : wr.cell? ⟨T, 1, none⟩ = some (.slice (some ⟨D, 0, none⟩) K K) := hBT.cell 1
    have hTl := hBT.lt
    have hRl := hBR.lt
    have hfR0 := hBR.free 0
    have hfR1 := hBR.free 1
    have hcR0 : wr.cell? ⟨w.heap.size, 0, none⟩ = some (.int .i64 0) := hBR.cell 0
    have hcR1 : wr.cell? ⟨w.heap.size, 1, none⟩ = some (.slice none 0 0) := hBR.cell 1
    by_cases hlt : k < K
    · have hi1 : (k : Int) < K := by omega
      have hi0 : (0 : Int) ≤ k := by omega
      obtain ⟨x, hx⟩ : ∃ x, (laidL n g k)[k]? = some x := ⟨_, List.getElem?_eq_getElem (by rw [HLL.out]; exact hlt)⟩
      obtain ⟨sb, hsb, hDl, hcD⟩ := hOD.at1 (c := fun x : Nat => .int .u64 (x : Int)) hx
      injection hsb with hsb
      injection hsb with hsb
      subst hsb
      have hfD := Own.free hOD k
      obtain ⟨hgl, hgc⟩ := HC.out k hlt
      obtain ⟨gk, hgk⟩ : ∃ gk, g k = gk := ⟨_, rfl⟩
      have hst := fun (w' : World) (hs' : Same wr w') => Own.put1 (c := fun x : Nat => .int .u64 (x : Int)) (Own.frm hOD hs' (fun _ _ => id)) (i := k) (by rw [HLL.out]; exact hlt) (g k &&& fu)
      rw [HSET.out k hlt] at hst
      rw [hgk] at hgl hgc hst
      have hand := u64_and_nat gk fu hgl hfl
      have HGC := Lib.hid (fun w' (h : Same wr w') => hgc w' (hs.trans h (fun _ _ h => h)))
      have HST := Lib.hid hst
      clear hs hBR hBT hOD hx hgc hgk hst
      go_upto_region 5 with fail
      refine wp_quiet_tail 10 (by kernel_rfl) (by kernel_rfl) ?_
      simp only [List.take_succ_cons, List.take_zero, List.drop_succ_cons, List.drop_zero]
      repeat (any_goals (first | go_big_quiet_step (first | (go_at_call 60; exact quiet_call ((HFU.out _).mono fun e w' h => ⟨h.1, h.2 ▸ Frm.refl _ _⟩)) | exact quiet_call (HGC.out _ (more_same _ _))) | quiet_step (first | (go_at_call 60; exact quiet_call ((HFU.out _).mono fun e w' h => ⟨h.1, h.2 ▸ Frm.refl _ _⟩)) | exact quiet_call (HGC.out _ (more_same _ _)))))
      refine wpQuiet_nil ?_
      rintro wz ⟨q, hq⟩
      have hsz : Same wr wz := by rw [hq]; exact more_same _ q
      have hfz := Own.free (Own.frm HOD.out hsz (fun _ _ => id)) k
      have hcz := (hsz.cell (p := ⟨D, k, none⟩) hDl id).trans hcD
      have HSZ := Lib.hid ((HS.out.trans hsz (fun _ _ h => h)).setNew (g := D) k (.int .u64 ((gk &&& fu : Nat) : Int)) hwD)
      have HBRz := Lib.hid ((HBR.out.frm hsz id).far (p := ⟨D, k, none⟩) hnRD (.int .u64 ((gk &&& fu : Nat) : Int)))
      have HBTz := Lib.hid ((HBT.out.frm hsz id).far (p := ⟨D, k, none⟩) (Ne.symm hnDT) (.int .u64 ((gk &&& fu : Nat) : Int)))
      have HOZ := Lib.hid (HST.out wz hsz)
      have hDz : D < wz.heap.size := by have := hsz.size; omega
      clear hq hsz hcD hfD hDl hcT0 hcT hcR0 hcR1 hfR0 hfR1 hTl hRl hen
      go_wp2
      go_roundw
      case rel => exact ⟨k + 1, by omega, by go_num, HSZ.out, HBRz.out, HBTz.out, HOZ.out⟩
      case measure => simp [intOf]; omega
    · obtain rfl : k = K := by omega
      clear hs hBR hBT hOD
      go_wp2
      refine wp_post fun we hwe => ?_
      have hBE : Blk we w.heap.size 24 #[.int .i64 n, .slice (some ⟨D, 0, none⟩) k k] := by
        rw [hwe]
        have := (HBR.out.set 0 (.int .i64 n)).set 1 (.slice (some ⟨D, 0, none⟩) k k)
        simpa using this
      have hOE : OwnW we (some ⟨D, 0, none⟩) k k (laidL n g k) := by
        rw [hwe]
        exact (Own.far (p := ⟨w.heap.size, 0, none⟩) HOD.out (fun a ha h => by injection ha with ha; subst ha; exact hnRD h.symm) _).far (p := ⟨w.heap.size, 1, none⟩) (fun a ha h => by injection ha with ha; subst ha; exact hnRD h.symm) _
      have hSE : Same w we := by rw [hwe]; exact (HS.out.setNew 0 _ (Nat.le_refl _)).setNew 1 _ (Nat.le_refl _)
      have hc0 : we.cell? ⟨w.heap.size, 0, none⟩ = some (.int .i64 n) := hBE.cell 0
      have hc1 : we.cell? ⟨w.heap.size, 1, none⟩ = some (.slice (some ⟨D, 0, none⟩) k k) := hBE.cell 1
      clear hwe hBE
      refine bodyPost_ret (v := .agg #[.int .i64 n, .slice (some ⟨D, 0, none⟩) k k]) (by simp [results, Try.results63, go_sem, hc0, hc1]) rfl ?_
      refine ⟨some ⟨D, 0, none⟩, k, by rw [HLL.out], ?_, fresh_some hwD, hSE⟩
      rw [HLL.out]
      exact hOE
end Go.Proofs.Ytlggmoghgoeiiaa
