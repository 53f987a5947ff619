/- Truth tables: Form of the reference. -/
import Derived.Test.YtlggmoghgoeiiaaTrRef
namespace Go.Proofs.Ytlggmoghgoeiiaa
open Go.RowKit Go.Tk

set_option maxHeartbeats 1000000 in
theorem rForm_any (N : Int) (A : Option Addr) (m C : Nat) (ws : List Nat) (w : World) (h : WL w A m ws) (hb : Small ws) :
    Calls Try.prog 24 #[.agg #[.int .i64 N, .slice A m C]] w fun e w' => e = .returned (.bool (frm N ws)) ∧ Same w w' := by
  obtain rfl := h.len
  have H := Lib.hid h
  clear h
  obtain ⟨r, hr⟩ : ∃ r, frm N ws = r := ⟨_, rfl⟩
  rw [hr]
  by_cases h0 : N < 0
  · have hf : r = false := by rw [← hr]; exact frm_false (.inl h0)
    subst hf
    clear hr
    go_enter Try.func24, Try.ntmps24
    go_upto_region 1 with fail
    refine wp_quiet (by kernel_rfl) (by kernel_rfl) ?_
    repeat (any_goals (first | go_big_quiet_step (fail) | quiet_step (fail)))
    refine wpQuiet_nil ?_
    rintro _ ⟨q, rfl⟩
    go_wp2
    go_ret
    exact ⟨rfl, ((Frm.refl _ _).alloc _).trans (more_same _ q) (fun _ _ h => h)⟩
  by_cases h1 : N > 16
  · have hf : r = false := by rw [← hr]; exact frm_false (.inr (.inl (by omega)))
    subst hf
    clear hr
    go_enter Try.func24, Try.ntmps24
    go_upto_region 1 with fail
    refine wp_quiet (by kernel_rfl) (by kernel_rfl) ?_
    repeat (any_goals (first | go_big_quiet_step (fail) | quiet_step (fail)))
    refine wpQuiet_nil ?_
    rintro _ ⟨q, rfl⟩
    go_wp2
    go_ret
    exact ⟨rfl, ((Frm.refl _ _).alloc _).trans (more_same _ q) (fun _ _ h => h)⟩
  obtain ⟨n, rfl⟩ : ∃ n : Nat, N = n := ⟨N.toNat, by omega⟩
  have hN : n ≤ 16 := by omega
  by_cases hl : ws.length = nw n
  · have hnp := nw_pos n
    have hnl := nw_le hN
    have hWd := fun w => rwords_any n w hN
    obtain ⟨x, hx⟩ : ∃ x, ws[0]? = some x := ⟨_, List.getElem?_eq_getElem (by omega)⟩
    have hxb := hb.at1 hx
    have hr2 : (decide (6 ≤ (n : Int)) || decide (x < 2 ^ 2 ^ n)) = r := by
      rw [← hr]
      unfold frm
      rw [show ws.getD 0 0 = x by rw [List.getD_eq_getElem?_getD, hx]; rfl, Int.toNat_natCast]
      have e1 : decide ((0 : Int) ≤ n ∧ (n : Int) ≤ 16 ∧ ws.length = nw n) = true := by simp [hl]; omega
      rw [e1, Bool.true_and]
    obtain ⟨k, hk⟩ : ∃ k, nw n = k := ⟨_, rfl⟩
    rw [hk] at hl hnp hnl hWd
    obtain ⟨b, off, rfl, hbl, hc⟩ := H.out.at1 hx
    have hidx2 : (0 : Int) < k := by omega
    have HWD := Lib.hid hWd
    have HR2 := Lib.hid hr2
    have HH := Lib.hid hl
    clear hr hk hx hWd hr2
    rw [hl]
    clear hl
    by_cases h6 : 6 ≤ n
    · have hf : r = true := by rw [← HR2.out]; simp; omega
      subst hf
      have h6' : (n : Int) ≥ 6 := by omega
      go_enter Try.func24, Try.ntmps24
      go_upto_region 1 with fail
      refine wp_quiet (by kernel_rfl) (by kernel_rfl) ?_
      repeat (any_goals (first | go_big_quiet_step ((go_at_call 61; exact quiet_call ((HWD.out _).mono fun e w' h => ⟨h.1, h.2 ▸ Frm.refl _ _⟩))) | quiet_step ((go_at_call 61; exact quiet_call ((HWD.out _).mono fun e w' h => ⟨h.1, h.2 ▸ Frm.refl _ _⟩)))))
      refine wpQuiet_nil ?_
      rintro wz ⟨q, hq⟩
      have hsz : Same w wz := by rw [hq]; exact ((Frm.refl _ _).alloc _).trans (more_same _ q) (fun _ _ h => h)
      have hB := (Blk.new w 24 #[.int .i64 n, .slice (some ⟨b, off, none⟩) k C]).frm (more_same _ q) id
      rw [← hq] at hB
      have hc0 : wz.cell? ⟨w.heap.size, 0, none⟩ = some (.int .i64 n) := hB.cell 0
      have hc1 : wz.cell? ⟨w.heap.size, 1, none⟩ = some (.slice (some ⟨b, off, none⟩) k C) := hB.cell 1
      have hcl := hB.lt
      have hcz : wz.cell? ⟨b, off, none⟩ = some (.int .u64 x) := (hsz.cell (p := ⟨b, off, none⟩) hbl id).trans hc
      have hbz : b < wz.heap.size := by have := hsz.size; omega
      have HSZ := Lib.hid hsz
      clear hq hc hbl hB hsz
      go_wp2
      go_ret
      exact ⟨rfl, HSZ.out⟩
    · have hpn : 2 ^ n ≤ 2 ^ 5 := Nat.pow_le_pow_right (by omega) (by omega)
      have hf : decide (x < 2 ^ 2 ^ n) = r := by rw [← HR2.out, show decide (6 ≤ (n : Int)) = false by simp; omega]; rfl
      have h6' : ¬ (n : Int) ≥ 6 := by omega
      have hpp : 2 ^ 2 ^ n ≤ 2 ^ 32 := Nat.pow_le_pow_right (by omega) hpn
      have h3 : (2 : Int) ^ n = ((2 ^ n : Nat) : Int) := pow_int n
      have hn0 : (0 : Int) ≤ n := by omega
      have hm : min n 64 = n := by omega
      generalize 2 ^ n = p at *
      have hm2 : min p 64 = p := by omega
      have h4 : (2 : Int) ^ p = ((2 ^ p : Nat) : Int) := pow_int p
      generalize 2 ^ p = P at *
      have hu3 : IntKind.u64.wrap ((2 : Int) ^ n) = (p : Int) := by rw [h3]; exact IntWalk.u64_in _ (by omega)
      have hu4 : IntKind.u64.wrap ((2 : Int) ^ p) = (P : Int) := by rw [h4]; exact IntWalk.u64_in _ (by omega)
      have HF := Lib.hid hf
      clear HR2 hf h3 h4 hpp hpn
      go_enter Try.func24, Try.ntmps24
      go_upto_region 1 with fail
      refine wp_quiet (by kernel_rfl) (by kernel_rfl) ?_
      repeat (any_goals (first | go_big_quiet_step ((go_at_call 61; exact quiet_call ((HWD.out _).mono fun e w' h => ⟨h.1, h.2 ▸ Frm.refl _ _⟩))) | quiet_step ((go_at_call 61; exact quiet_call ((HWD.out _).mono fun e w' h => ⟨h.1, h.2 ▸ Frm.refl _ _⟩)))))
      refine wpQuiet_nil ?_
      rintro wz ⟨q, hq⟩
      have hsz : Same w wz := by rw [hq]; exact ((Frm.refl _ _).alloc _).trans (more_same _ q) (fun _ _ h => h)
      have hB := (Blk.new w 24 #[.int .i64 n, .slice (some ⟨b, off, none⟩) k C]).frm (more_same _ q) id
      rw [← hq] at hB
      have hc0 : wz.cell? ⟨w.heap.size, 0, none⟩ = some (.int .i64 n) := hB.cell 0
      have hc1 : wz.cell? ⟨w.heap.size, 1, none⟩ = some (.slice (some ⟨b, off, none⟩) k C) := hB.cell 1
      have hcl := hB.lt
      have hcz : wz.cell? ⟨b, off, none⟩ = some (.int .u64 x) := (hsz.cell (p := ⟨b, off, none⟩) hbl id).trans hc
      have hbz : b < wz.heap.size := by have := hsz.size; omega
      have HSZ := Lib.hid hsz
      clear hq hc hbl hB hsz
      go_upto_region 5 with fail
      refine wp_quiet (by kernel_rfl) (by kernel_rfl) ?_
      repeat (any_goals (first | go_big_quiet_step (fail) | quiet_step (fail)))
      refine wpQuiet_nil ?_
      rintro _ ⟨q2, rfl⟩
      go_wp2
      go_ret
      exact ⟨ret_bool HF.out, HSZ.out.trans (more_same _ q2) (fun _ _ h => h)⟩
  · have hf : r = false := by rw [← hr]; exact frm_false (.inr (.inr hl))
    subst hf
    have hl' : ((ws.length : Int) != ((nw n : Nat) : Int)) = true := by simp; omega
    clear hr
    go_enter Try.func24, Try.ntmps24
    go_upto_region 1 with fail
    refine wp_quiet (by kernel_rfl) (by kernel_rfl) ?_
    repeat (any_goals (first | go_big_quiet_step ((go_at_call 61; exact quiet_call ((rwords_any _ _ hN).mono fun e w' h => ⟨h.1, h.2 ▸ Frm.refl _ _⟩))) | quiet_step ((go_at_call 61; exact quiet_call ((rwords_any _ _ hN).mono fun e w' h => ⟨h.1, h.2 ▸ Frm.refl _ _⟩)))))
    refine wpQuiet_nil ?_
    rintro _ ⟨q, rfl⟩
    go_wp2
    go_ret
    exact ⟨rfl, ((Frm.refl _ _).alloc _).trans (more_same _ q) (fun _ _ h => h)⟩
end Go.Proofs.Ytlggmoghgoeiiaa
