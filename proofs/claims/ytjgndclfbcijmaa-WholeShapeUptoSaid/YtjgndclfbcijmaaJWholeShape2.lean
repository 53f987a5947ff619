/- Contracts and plain laws, put together in one file. No condition. -/
import Derived.Test.YtjgndclfbcijmaaJ1
import Derived.Test.YtjgndclfbcijmaaProg
import Derived.Laws.BitsAllLaws
import Derived.BigRegion
import Derived.Shelf.Abstract
import Derived.KernelRfl


/- Truth tables: words, full, count, Form of the program. -/
namespace Go.Proofs.Ytjgndclfbcijmaa
open Go.RowKit Go.Tk

theorem pow_int (n : Nat) : (2 : Int) ^ n = ((2 ^ n : Nat) : Int) := by simp
theorem words_any (n : Nat) (w : World) (h : n ≤ 16) : Calls Try.prog 24 #[.int .i64 n] w fun e w' => e = .returned (.int .i64 (nw n : Nat)) ∧ w = w' := by
  have hp := pow_le16 h
  have hs := nw_shift h
  have hw : wrap64 ((2 : Int) ^ n) = ((2 ^ n : Nat) : Int) := by
    rw [pow_int]
    generalize 2 ^ n = p at hp
    exact IntWalk.wrap64_in _ (by omega)
  have hf : max 1 (wrap64 ((2 : Int) ^ n) / 64) = ((nw n : Nat) : Int) := by
    rw [hw, ← hs]
    generalize 2 ^ n = p at hp
    omega
  have HF := Lib.hid hf
  clear hs hw hf
  go_enter Try.func24, Try.ntmps24
  go_wp2
  go_ret
  exact ⟨by rw [← HF.out]; rfl, rfl⟩
theorem full_any (n : Nat) (w : World) (h : n ≤ 16) : Calls Try.prog 25 #[.int .i64 n] w fun e w' => e = .returned (.int .u64 (fullN n : Nat)) ∧ w = w' := by
  by_cases h6 : 6 ≤ n
  · have hf : fullN n = 18446744073709551615 := by unfold fullN; rw [if_pos h6]
    rw [hf]
    have h6' : (n : Int) ≥ 6 := by omega
    clear hf
    go_enter Try.func25, Try.ntmps25
    go_wp2
    go_ret
    exact ⟨rfl, rfl⟩
  · obtain rfl | rfl | rfl | rfl | rfl | rfl : n = 0 ∨ n = 1 ∨ n = 2 ∨ n = 3 ∨ n = 4 ∨ n = 5 := by omega
    all_goals
      clear h6 h
      go_enter Try.func25, Try.ntmps25
      go_wp2
      go_ret
      exact ⟨ret_int (by decide), rfl⟩
/-- the error of a count of variables -/
def cntE (n : Int) : Int := if n < 0 then 1 else if 16 < n then 6 else 0
theorem count_any (n : Int) (w : World) : Calls Try.prog 13 #[.int .i64 n] w fun e w' => e = .returned (.int .i64 (cntE n)) ∧ w = w' := by
  by_cases h0 : n < 0
  · have hf : cntE n = 1 := by unfold cntE; rw [if_pos h0]
    rw [hf]
    clear hf
    go_enter Try.func13, Try.ntmps13
    go_wp2
    go_ret
    exact ⟨rfl, rfl⟩
  · by_cases h1 : n > 16
    · have hf : cntE n = 6 := by unfold cntE; rw [if_neg h0, if_pos (by omega)]
      rw [hf]
      clear hf
      go_enter Try.func13, Try.ntmps13
      go_wp2
      go_ret
      exact ⟨rfl, rfl⟩
    · have hf : cntE n = 0 := by unfold cntE; rw [if_neg h0, if_neg (by omega)]
      rw [hf]
      clear hf
      go_enter Try.func13, Try.ntmps13
      go_wp2
      go_ret
      exact ⟨rfl, rfl⟩
/-- a slice of words -/
def ucell (x : Nat) : List Value := [.int .u64 (x : Int)]
theorem ucell_len (x : Nat) : (ucell x).length = 1 := rfl
abbrev WL (w : World) (A : Option Addr) (n : Nat) (ws : List Nat) : Prop := Sl w 1 ucell A n ws
abbrev OwnW (w : World) (A : Option Addr) (n C : Nat) (ws : List Nat) : Prop := Own w 39 1 ucell A n C ws
theorem WL.at1 {w : World} {A : Option Addr} {n : Nat} {ws : List Nat} (h : WL w A n ws) {i : Nat} {x : Nat} (hi : ws[i]? = some x) : ∃ b off, A = some ⟨b, off, none⟩ ∧ b < w.heap.size ∧ w.cell? ⟨b, off + i, none⟩ = some (.int .u64 x) := by
  obtain ⟨b, off, h1, h2, h3⟩ := h.get i x hi
  refine ⟨b, off, h1, h2, ?_⟩
  have := h3 0 (by omega)
  simpa [ucell] using this
def Small (ws : List Nat) : Prop := ∀ x ∈ ws, x < 18446744073709551616
theorem Small.at1 {ws : List Nat} (h : Small ws) {i x : Nat} (hi : ws[i]? = some x) : x < 18446744073709551616 := h x (List.mem_of_getElem? hi)
/-- is it in form? -/
def frm (N : Int) (ws : List Nat) : Bool := decide (0 ≤ N ∧ N ≤ 16 ∧ ws.length = nw N.toNat) && (decide (6 ≤ N) || decide (ws.getD 0 0 < 2 ^ 2 ^ N.toNat))
theorem frm_nat {n : Nat} {ws : List Nat} : frm n ws = true ↔ FormN n ws := by
  unfold frm
  simp only [Bool.and_eq_true, Bool.or_eq_true, decide_eq_true_eq, Int.toNat_natCast]
  constructor
  · rintro ⟨⟨_, h1, h2⟩, h3⟩
    exact ⟨by omega, h2, fun h => h3.elim (fun h4 => by omega) id⟩
  · intro h
    refine ⟨⟨by omega, by have := h.n16; omega, h.len⟩, ?_⟩
    by_cases h6 : n < 6
    · exact .inr (h.top h6)
    · exact .inl (by omega)
theorem frm_true {N : Int} {ws : List Nat} (h : frm N ws = true) : ∃ n : Nat, N = n ∧ FormN n ws := by
  have h0 : 0 ≤ N := by
    unfold frm at h
    simp at h
    exact h.1.1
  obtain ⟨n, rfl⟩ := Int.eq_ofNat_of_zero_le h0
  exact ⟨n, rfl, frm_nat.1 h⟩
theorem frm_false {N : Int} {ws : List Nat} (h : N < 0 ∨ 16 < N ∨ ws.length ≠ nw N.toNat) : frm N ws = false := by
  unfold frm
  rcases h with h | h | h
  · simp <;> omega
  · simp <;> omega
  · simp [h]
/-- no bit too many in the last word -/
theorem andNot_top {a k : Nat} (ha : a < 18446744073709551616) (hk : k ≤ 64) : (a &&& (18446744073709551615 - (2 ^ k - 1)) = 0) ↔ a < 2 ^ k := by
  have h2 : 18446744073709551615 - (2 ^ k - 1) = 2 ^ k * (2 ^ (64 - k) - 1) := by
    have h3 : 2 ^ k * 2 ^ (64 - k) = 18446744073709551616 := by rw [← Nat.pow_add, show k + (64 - k) = 64 by omega]
    have h4 : 0 < 2 ^ k := Nat.pow_pos (by omega)
    rw [Nat.mul_sub, h3]
    omega
  rw [h2]
  constructor
  · intro h
    refine Nat.lt_pow_two_of_testBit _ fun j hj => ?_
    by_cases hj64 : j < 64
    · have h5 := congrArg (fun x => x.testBit j) h
      simp only [Nat.testBit_and, Nat.testBit_two_pow_mul, Nat.testBit_two_pow_sub_one, Nat.zero_testBit] at h5
      simpa [show k ≤ j from hj, show j - k < 64 - k by omega] using h5
    · exact Nat.testBit_lt_two_pow (Nat.lt_of_lt_of_le ha (Nat.pow_le_pow_right (show 0 < 2 by omega) (show 64 ≤ j by omega)))
  · intro h
    apply Nat.eq_of_testBit_eq
    intro j
    simp only [Nat.testBit_and, Nat.testBit_two_pow_mul, Nat.zero_testBit]
    by_cases hj : k ≤ j
    · have : a.testBit j = false := Nat.testBit_lt_two_pow (Nat.lt_of_lt_of_le h (Nat.pow_le_pow_right (by omega) hj))
      simp [this]
    · simp [hj]
theorem last_ok {n : Nat} {ws : List Nat} (hn : n ≤ 16) (hl : ws.length = nw n) {x : Nat} (hx : ws[nw n - 1]? = some x) (hb : x < 18446744073709551616) : decide (x &&& (18446744073709551615 - fullN n) = 0) = frm n ws := by
  by_cases h6 : 6 ≤ n
  · have h1 : frm n ws = true := frm_nat.2 ⟨hn, hl, fun h => by omega⟩
    rw [h1]
    unfold fullN
    rw [if_pos h6]
    simp
  · have h0 : nw n = 1 := nw_small (by omega)
    rw [h0] at hx
    have hk : 2 ^ n ≤ 32 := by
      have : ∀ n, n < 6 → 2 ^ n ≤ 32 := by decide
      exact this n (by omega)
    have h2 := andNot_top hb (show 2 ^ n ≤ 64 by omega)
    have h3 : fullN n = 2 ^ 2 ^ n - 1 := by unfold fullN; rw [if_neg h6]
    rw [h3]
    have hg : ws.getD 0 0 = x := by rw [List.getD_eq_getElem?_getD, show ws[0]? = some x from hx]; rfl
    have h4 : frm n ws = decide (x < 2 ^ 2 ^ n) := by
      unfold frm
      rw [hg, Int.toNat_natCast]
      have e1 : decide ((0 : Int) ≤ n ∧ (n : Int) ≤ 16 ∧ ws.length = nw n) = true := by simp [hl] <;> omega
      have e2 : decide ((6 : Int) ≤ n) = false := by simp <;> omega
      rw [e1, e2]
      simp
    rw [h4, decide_eq_decide]
    exact h2

theorem beq0 (z : Nat) : (((z : Nat) : Int) == 0) = decide (z = 0) := by rw [Bool.eq_iff_iff]; simp
set_option maxHeartbeats 1000000 in
theorem Form_any (N : Int) (A : Option Addr) (m C : Nat) (ws : List Nat) (w : World) (h : WL w A m ws) (hb : Small ws) :
    Calls Try.prog 26 #[.agg #[.int .i64 N, .slice A m C]] w fun e w' => e = .returned (.bool (frm N ws)) ∧ Same w w' := by
  obtain rfl := h.len
  have H := Lib.hid h
  clear h
  obtain ⟨r, hr⟩ : ∃ r, frm N ws = r := ⟨_, rfl⟩
  rw [hr]
  by_cases h0 : N < 0
  · have hf : r = false := by rw [← hr]; exact frm_false (.inl h0)
    subst hf
    clear hr
    go_enter Try.func26, Try.ntmps26
    go_upto_region 1 with fail
    refine wp_quiet (by kernel_rfl) (by kernel_rfl) ?_
    repeat (any_goals (first | go_big_quiet_step (fail) | quiet_step (fail)))
    refine wpQuiet_nil ?_
    rintro _ ⟨q, rfl⟩
    go_wp2
    go_ret
    exact ⟨rfl, ((Frm.refl _ _).alloc _).trans (more_same _ q) (fun _ _ h => h)⟩
  by_cases h1 : N > 16
  · have hf : r = false := by rw [← hr]; exact frm_false (.inr (.inl (by omega)))
    subst hf
    clear hr
    go_enter Try.func26, Try.ntmps26
    go_upto_region 1 with fail
    refine wp_quiet (by kernel_rfl) (by kernel_rfl) ?_
    repeat (any_goals (first | go_big_quiet_step (fail) | quiet_step (fail)))
    refine wpQuiet_nil ?_
    rintro _ ⟨q, rfl⟩
    go_wp2
    go_ret
    exact ⟨rfl, ((Frm.refl _ _).alloc _).trans (more_same _ q) (fun _ _ h => h)⟩
  obtain ⟨n, rfl⟩ : ∃ n : Nat, N = n := ⟨N.toNat, by omega⟩
  have hN : n ≤ 16 := by omega
  by_cases hl : ws.length = nw n
  · have hnp := nw_pos n
    have hnl := nw_le hN
    obtain ⟨k, hk⟩ : ∃ k, nw n = k := ⟨_, rfl⟩
    have hWd := fun w => words_any n w hN
    rw [hk] at hl hnp hnl hWd
    obtain ⟨x, hx⟩ : ∃ x, ws[k - 1]? = some x := ⟨_, List.getElem?_eq_getElem (by omega)⟩
    have hxb := hb.at1 hx
    have hlast : decide (x &&& (18446744073709551615 - fullN n) = 0) = r := by
      rw [← hr]
      exact last_ok hN (by rw [hl, hk]) (by rw [hk]; exact hx) hxb
    have hfl := fullN_lt n
    have hFu := fun w => full_any n w hN
    obtain ⟨fu, hfu⟩ : ∃ fu, fullN n = fu := ⟨_, rfl⟩
    rw [hfu] at hlast hfl hFu
    obtain ⟨b, off, rfl, hbl, hc⟩ := H.out.at1 hx
    have hand := u64_andNot_nat x fu hxb hfl
    have hidx : (0 : Int) ≤ (k : Int) - 1 := by omega
    have hidx2 : (k : Int) - 1 < k := by omega
    have HWD := Lib.hid hWd
    have HFU := Lib.hid hFu
    have HLAST := Lib.hid hlast
    have HH := Lib.hid hl
    clear hr hk hx hWd hFu hfu hlast
    rw [hl]
    clear hl
    go_enter Try.func26, Try.ntmps26
    go_upto_region 1 with fail
    refine wp_quiet (by kernel_rfl) (by kernel_rfl) ?_
    repeat (any_goals (first | go_big_quiet_step ((go_at_call 24; exact quiet_call ((HWD.out _).mono fun e w' h => ⟨h.1, h.2 ▸ Frm.refl _ _⟩))) | quiet_step ((go_at_call 24; exact quiet_call ((HWD.out _).mono fun e w' h => ⟨h.1, h.2 ▸ Frm.refl _ _⟩)))))
    refine wpQuiet_nil ?_
    rintro wz ⟨q, hq⟩
    have hsz : Same w wz := by rw [hq]; exact ((Frm.refl _ _).alloc _).trans (more_same _ q) (fun _ _ h => h)
    have hB := (Blk.new w 30 #[.int .i64 n, .slice (some ⟨b, off, none⟩) k C]).frm (more_same _ q) id
    rw [← hq] at hB
    have hc0 : wz.cell? ⟨w.heap.size, 0, none⟩ = some (.int .i64 n) := hB.cell 0
    have hc1 : wz.cell? ⟨w.heap.size, 1, none⟩ = some (.slice (some ⟨b, off, none⟩) k C) := hB.cell 1
    have hcl := hB.lt
    have hcz := (hsz.cell (p := ⟨b, off + (k - 1), none⟩) hbl id).trans hc
    have hbz : b < wz.heap.size := by have := hsz.size; omega
    have HSZ := Lib.hid hsz
    clear hq hc hbl hB hsz
    go_upto_region 3 with fail
    refine wp_quiet (by kernel_rfl) (by kernel_rfl) ?_
    repeat (any_goals (first | go_big_quiet_step ((go_at_call 25; exact quiet_call ((HFU.out _).mono fun e w' h => ⟨h.1, h.2 ▸ Frm.refl _ _⟩))) | quiet_step ((go_at_call 25; exact quiet_call ((HFU.out _).mono fun e w' h => ⟨h.1, h.2 ▸ Frm.refl _ _⟩)))))
    refine wpQuiet_nil ?_
    rintro _ ⟨q2, rfl⟩
    go_wp2
    go_ret
    exact ⟨ret_bool (by rw [← HLAST.out]; exact beq0 _), HSZ.out.trans (more_same _ q2) (fun _ _ h => h)⟩
  · have hf : r = false := by rw [← hr]; exact frm_false (.inr (.inr hl))
    subst hf
    have hl' : ((ws.length : Int) != ((nw n : Nat) : Int)) = true := by simp <;> omega
    clear hr
    go_enter Try.func26, Try.ntmps26
    go_upto_region 1 with fail
    refine wp_quiet (by kernel_rfl) (by kernel_rfl) ?_
    repeat (any_goals (first | go_big_quiet_step ((go_at_call 24; exact quiet_call ((words_any _ _ hN).mono fun e w' h => ⟨h.1, h.2 ▸ Frm.refl _ _⟩))) | quiet_step ((go_at_call 24; exact quiet_call ((words_any _ _ hN).mono fun e w' h => ⟨h.1, h.2 ▸ Frm.refl _ _⟩)))))
    refine wpQuiet_nil ?_
    rintro _ ⟨q, rfl⟩
    go_wp2
    go_ret
    exact ⟨rfl, ((Frm.refl _ _).alloc _).trans (more_same _ q) (fun _ _ h => h)⟩
end Go.Proofs.Ytjgndclfbcijmaa


/- Truth tables: form of the program (a list of tables). -/
namespace Go.Proofs.Ytjgndclfbcijmaa
open Go.RowKit Go.Tk

/-- a table as it is handed about -/
structure Tb where
  N : Int
  A : Option Addr
  C : Nat
  ws : List Nat
def Tb.val (t : Tb) : Value := .agg #[.int .i64 t.N, .slice t.A t.ws.length t.C]
def Tb.frm (t : Tb) : Bool := Proofs.Ytjgndclfbcijmaa.frm t.N t.ws
/-- its words are to be read -/
structure TbOk (w : World) (t : Tb) : Prop where
  wl : WL w t.A t.ws.length t.ws
  small : Small t.ws
theorem TbOk.same {w w' : World} {t : Tb} (h : TbOk w t) (hs : Same w w') : TbOk w' t := ⟨Sl.same h.wl hs, h.small⟩
theorem TbOk.form {w : World} {t : Tb} (h : TbOk w t) {w' : World} (hs : Same w w') : Calls Try.prog 26 #[t.val] w' fun e w'' => e = .returned (.bool t.frm) ∧ Same w' w'' :=
  Form_any t.N t.A _ t.C t.ws w' (Sl.same h.wl hs) h.small
/-- tables in a row -/
def Tbs (w : World) (g : Nat) (ts : List Tb) : Prop := ∀ i t, ts[i]? = some t → g < w.heap.size ∧ w.cell? ⟨g, i * 2, none⟩ = some (.int .i64 t.N) ∧ w.cell? ⟨g, i * 2 + 1, none⟩ = some (.slice t.A t.ws.length t.C)
theorem Tbs.same {w w' : World} {g : Nat} {ts : List Tb} (h : Tbs w g ts) (hs : Same w w') : Tbs w' g ts := fun i t hi => by
  obtain ⟨h1, h2, h3⟩ := h i t hi
  exact ⟨Nat.lt_of_lt_of_le h1 hs.size, (hs.cell (p := ⟨g, i * 2, none⟩) h1 id).trans h2, (hs.cell (p := ⟨g, i * 2 + 1, none⟩) h1 id).trans h3⟩
/-- all in form and of one N -/
def fm (ts : List Tb) : Bool := ts.all fun t => t.frm && (t.N == (ts.getD 0 ⟨0, none, 0, []⟩).N)

set_option maxHeartbeats 2000000 in
theorem form_any (g n C : Nat) (ts : List Tb) (w : World) (hn : n = ts.length) (hn1 : n ≤ 1000) (h : Tbs w g ts) (hok : ∀ t ∈ ts, TbOk w t) :
    Calls Try.prog 21 #[.slice (some ⟨g, 0, none⟩) n C] w fun e w' => e = .returned (.bool (fm ts)) ∧ Same w w' := by
  have H := Lib.hid h
  have HOK := Lib.hid hok
  obtain ⟨r, hr⟩ : ∃ r, fm ts = r := ⟨_, rfl⟩
  rw [hr]
  have HR := Lib.hid hr
  have HN := Lib.hid hn
  clear h hok hr hn
  go_enter Try.func21, Try.ntmps21
  go_wp2
  go_loopw [7] (fun i wr => ∃ k : Nat, k ≤ n ∧ i = .int .i64 k ∧ (∀ j t, ts[j]? = some t → j < k → t.frm = true ∧ t.N = (ts.getD 0 ⟨0, none, 0, []⟩).N) ∧ Same w wr) (fun i _ => n - (intOf i).toNat)
  case atStart => exact ⟨0, by omega, rfl, fun j t _ h => by omega, Frm.refl _ _⟩
  case round =>
    obtain ⟨k, hk, rfl, hall, hs⟩ := hrel
    have HALL := Lib.hid hall
    have HS := Lib.hid hs
    by_cases hlt : k < n
    · have hi1 : (k : Int) < n := by omega
      have hi0 : (0 : Int) ≤ k := by omega
      have hn0 : (0 : Int) < n := by omega
      obtain ⟨t, ht⟩ : ∃ t, ts[k]? = some t := ⟨_, List.getElem?_eq_getElem (by rw [← HN.out]; exact hlt)⟩
      obtain ⟨t0, ht0⟩ : ∃ t, ts[0]? = some t := ⟨_, List.getElem?_eq_getElem (by rw [← HN.out]; omega)⟩
      have hd0 : ts.getD 0 ⟨0, none, 0, []⟩ = t0 := by rw [List.getD_eq_getElem?_getD, ht0]; rfl
      obtain ⟨hg, hc0, hc1⟩ := (H.out.same hs) k t ht
      obtain ⟨_, hz0, _⟩ := (H.out.same hs) 0 t0 ht0
      rw [Nat.zero_mul] at hz0
      have htok := HOK.out t (List.mem_of_getElem? ht)
      have hne : g ≠ wr.heap.size := by omega
      have HT := Lib.hid ht
      have HD0 := Lib.hid hd0
      clear ht ht0 hd0 hall hs
      obtain ⟨tN, tA, tC, tws⟩ := t
      obtain ⟨zN, zA, zC, zws⟩ := t0
      simp only at hc0 hc1 hz0
      have HTOK := Lib.hid htok
      clear htok
      have hbx : ∃ b, (Tb.mk tN tA tC tws).frm = b := ⟨_, rfl⟩
      obtain ⟨bb, hbb⟩ := hbx
      go_upto_region 4 with fail
      refine wp_world fun wa hwa => ?_
      have hsa : Same wr wa := by rw [hwa]; exact (Frm.refl _ _).alloc _
      have hB := Blk.new wr 30 #[.int .i64 tN, .slice tA tws.length tC]
      rw [← hwa] at hB
      have hb0 : wa.cell? ⟨wr.heap.size, 0, none⟩ = some (.int .i64 tN) := hB.cell 0
      have hb1 : wa.cell? ⟨wr.heap.size, 1, none⟩ = some (.slice tA tws.length tC) := hB.cell 1
      have hbl := hB.lt
      have hza : wa.cell? ⟨g, 0, none⟩ = some (.int .i64 zN) := (hsa.cell (p := ⟨g, 0, none⟩) hg id).trans hz0
      have hga : g < wa.heap.size := by omega
      have hfc : ∀ w', Same wa w' → Calls Try.prog 26 #[.agg #[.int .i64 tN, .slice tA tws.length tC]] w' fun e w'' => e = .returned (.bool bb) ∧ Same w' w'' := fun w' hs' => by
        have := HTOK.out.form ((HS.out.trans hsa (fun _ _ h => h)).trans hs' (fun _ _ h => h))
        rw [hbb] at this
        exact this
      have HFC := Lib.hid hfc
      have HSA := Lib.hid (HS.out.trans hsa (fun _ _ h => h))
      have HBB := Lib.hid hbb
      clear hwa hsa hB hc0 hc1 hz0 hg hfc HTOK hbb
      cases bb with
      | false =>
        have hf : r = false := by
          rw [← HR.out]
          unfold fm
          rw [List.all_eq_false]
          exact ⟨_, List.mem_of_getElem? HT.out, by simp [HBB.out]⟩
        subst hf
        refine wp_quiet (by kernel_rfl) (by kernel_rfl) ?_
        repeat (any_goals (first | go_big_quiet_step ((go_at_call 26; exact quiet_call (HFC.out _ (more_same _ _)))) | quiet_step ((go_at_call 26; exact quiet_call (HFC.out _ (more_same _ _))))))
        refine wpQuiet_nil ?_
        rintro _ ⟨q, rfl⟩
        go_wp2
        go_ret
        exact ⟨rfl, HSA.out.trans (more_same _ q) (fun _ _ h => h)⟩
      | true =>
        by_cases hNN : tN = zN
        · subst hNN
          refine wp_quiet (by kernel_rfl) (by kernel_rfl) ?_
          repeat (any_goals (first | go_big_quiet_step ((go_at_call 26; exact quiet_call (HFC.out _ (more_same _ _)))) | quiet_step ((go_at_call 26; exact quiet_call (HFC.out _ (more_same _ _))))))
          refine wpQuiet_nil ?_
          rintro _ ⟨q, rfl⟩
          go_wp2
          go_roundw
          case rel => exact ⟨k + 1, by omega, by go_num, fun j t hj hjk => by
            by_cases hjk2 : j < k
            · exact HALL.out j t hj hjk2
            · obtain rfl : j = k := by omega
              obtain rfl := Option.some.inj (hj.symm.trans HT.out)
              exact ⟨HBB.out, by rw [HD0.out]⟩, HSA.out.trans (more_same _ q) (fun _ _ h => h)⟩
          case measure => simp [intOf] <;> omega
        · have hne2 : (tN != zN) = true := by simpa using hNN
          have hf : r = false := by
            rw [← HR.out]
            unfold fm
            rw [List.all_eq_false]
            exact ⟨_, List.mem_of_getElem? HT.out, by rw [HD0.out]; simp [hNN]⟩
          subst hf
          clear hNN
          refine wp_quiet (by kernel_rfl) (by kernel_rfl) ?_
          repeat (any_goals (first | go_big_quiet_step ((go_at_call 26; exact quiet_call (HFC.out _ (more_same _ _)))) | quiet_step ((go_at_call 26; exact quiet_call (HFC.out _ (more_same _ _))))))
          refine wpQuiet_nil ?_
          rintro _ ⟨q, rfl⟩
          go_wp2
          go_ret
          exact ⟨rfl, HSA.out.trans (more_same _ q) (fun _ _ h => h)⟩
    · obtain rfl : k = n := by omega
      have hf : r = true := by
        rw [← HR.out]
        unfold fm
        rw [List.all_eq_true]
        intro t ht
        obtain ⟨j, hj⟩ := List.getElem?_of_mem ht
        have := HALL.out j t hj (by rw [HN.out]; exact lt_of_get hj)
        simp [this]
      subst hf
      clear hall hs HALL
      go_wp2
      go_ret
      exact ⟨rfl, HS.out⟩
end Go.Proofs.Ytjgndclfbcijmaa


/- Truth tables: laid of the program. -/
namespace Go.Proofs.Ytjgndclfbcijmaa
open Go.RowKit Go.Tk

/-- a table of words of its own -/
def NewT (w : World) (ws : List Nat) (A : Option Addr) (C : Nat) (w' : World) : Prop := OwnW w' A ws.length C ws ∧ Fresh w.heap.size A ∧ Same w w'
def RetT (w : World) (N : Int) (ws : List Nat) (e : Ending) (w' : World) : Prop := ∃ A C, e = .returned (.agg #[.int .i64 N, .slice A ws.length C]) ∧ NewT w ws A C w'
def RetTE (w : World) (N : Int) (ws : List Nat) (err : Int) (e : Ending) (w' : World) : Prop := ∃ A C, e = .returned (.tuple #[.agg #[.int .i64 N, .slice A ws.length C], .int .i64 err]) ∧ NewT w ws A C w'
theorem NewT.nil {w w' : World} (h : Same w w') : NewT w [] none 0 w' := ⟨Own.nil _ _ _ _, fresh_none _, h⟩
theorem NewT.wl {w w' : World} {ws : List Nat} {A : Option Addr} {C : Nat} (h : NewT w ws A C w') : WL w' A ws.length ws := h.1.sl ucell_len
theorem info_u64 : (Try.prog.info? 39).map (fun i => (i.zero, i.size, i.bytes)) = some (some (.int .u64 0), 1, 8) := by kernel_rfl
/-- words laid so far -/
def laidL (n : Nat) (g : Nat → Nat) (k : Nat) : List Nat := (List.range (nw n)).map fun i => if i < k then g i &&& fullN n else 0
theorem laidL_len (n : Nat) (g : Nat → Nat) (k : Nat) : (laidL n g k).length = nw n := by simp [laidL]
theorem laidL_zero (n : Nat) (g : Nat → Nat) : laidL n g 0 = List.replicate (nw n) 0 := by
  apply List.ext_getElem?
  intro i
  rcases Nat.lt_or_ge i (nw n) with h | h
  · simp [laidL, h]
  · rw [List.getElem?_eq_none (by rw [laidL_len]; exact h), List.getElem?_eq_none (by simpa using h)]
theorem laidL_set {n : Nat} {g : Nat → Nat} {k : Nat} (h : k < nw n) : (laidL n g k).set k (g k &&& fullN n) = laidL n g (k + 1) := by
  apply List.ext_getElem?
  intro i
  rcases Nat.lt_or_ge i (nw n) with hi | hi
  · rw [List.getElem?_set, laidL_len]
    simp only [laidL, List.getElem?_map, List.getElem?_range hi, Option.map_some]
    split
    · rename_i he; subst he; simp
    · rename_i he
      congr 1
      by_cases h1 : i < k
      · rw [if_pos h1, if_pos (by omega)]
      · rw [if_neg h1, if_neg (by omega)]
  · rw [List.getElem?_eq_none (by simp [laidL_len, hi]), List.getElem?_eq_none (by rw [laidL_len]; exact hi)]
theorem laidL_full (n : Nat) (g : Nat → Nat) : laidL n g (nw n) = (List.range (nw n)).map fun i => g i &&& fullN n := by
  unfold laidL
  apply List.map_congr_left
  intro i hi
  rw [if_pos (List.mem_range.1 hi)]
/-- a closure that tells the words -/
def Tells (w : World) (n : Nat) (fid : FuncId) (caps : Array Value) (g : Nat → Nat) : Prop :=
  ∀ i : Nat, i < nw n → g i < 18446744073709551616 ∧ ∀ w', Same w w' → Calls Try.prog fid (#[.int .i64 i] ++ caps) w' fun e w'' => e = .returned (.int .u64 (g i : Nat)) ∧ Same w' w''

theorem wp_post {P : Program} {fn : Func} {R : Ending → World → Prop} {x : Exit} {a : Act} {w : World} (h : ∀ w1, w1 = w → bodyPost P fn R x a w1) : bodyPost P fn R x a w := h w rfl
set_option maxHeartbeats 4000000 in
theorem laid_any (n : Nat) (fid : FuncId) (caps : Array Value) (g : Nat → Nat) (w : World) (hn : n ≤ 16) (hen : ∀ (args : Array Value) (w : World), (callFunc fid args).run Try.prog w = .ok (.enter fid args) w) (hcl : Tells w n fid caps g) :
    Calls Try.prog 14 #[.int .i64 n, .func (.func fid) #[] caps] w (RetT w n ((List.range (nw n)).map fun i => g i &&& fullN n)) := by
  have hmk := fun w => run_make_n (P := Try.prog) Try.underlying28 info_u64 .i64 .i64 (nw n) (show 8 * nw n ≤ 281474976710656 by have := nw_le hn; omega) (show nw n ≤ 9223372036854775807 by have := nw_le hn; omega) w
  have HCL := Lib.hid hcl
  have hnl := nw_le hn
  have hwd := fun w => words_any n w hn
  have hfu := fun w => full_any n w hn
  have hfl := fullN_lt n
  have hrl := laidL_full n g
  have HRL := Lib.hid hrl
  have hset : ∀ k, k < nw n → (laidL n g k).set k (g k &&& fullN n) = laidL n g (k + 1) := fun k h => laidL_set h
  have hll := laidL_len n g
  have hcl' := hcl
  have hz := laidL_zero n g
  unfold Tells at hcl'
  rw [← hrl]
  obtain ⟨K, hK⟩ : ∃ K, nw n = K := ⟨_, rfl⟩
  obtain ⟨fu, hfu'⟩ : ∃ fu, fullN n = fu := ⟨_, rfl⟩
  rw [hK] at hmk hnl hwd hset hll hcl' hz ⊢
  rw [hfu'] at hfu hfl hset
  have HLL := Lib.hid hll
  have HZ := Lib.hid hz
  have HSET := Lib.hid hset
  have HWD := Lib.hid hwd
  have HFU := Lib.hid hfu
  have HC := Lib.hid hcl'
  clear hwd hfu hrl hset hcl' hcl HCL hK hfu' HRL hll hz
  go_enter Try.func14, Try.ntmps14
  go_wp2_with (fail)
  refine call_world fun w1 hw1 => ?_
  refine (HWD.out w1).mono ?_
  rintro e w2 ⟨rfl, rfl⟩
  go_upto_region 2 with fail
  refine wp_world fun wb hwb => ?_
  subst hw1
  have hsb : Same w wb := by rw [hwb]; exact (((Frm.refl _ _).alloc _).alloc _).alloc _
  have hBR : Blk wb w.heap.size 30 #[.int .i64 0, .slice none 0 0] := by rw [hwb]; exact ((Blk.new w _ _).alloc _).alloc _
  have hBT : Blk wb (w.heap.size + 1 + 1) 30 #[.int .i64 n, .slice (some ⟨w.heap.size + 1, 0, none⟩) K K] := by
    rw [hwb]
    have := Blk.new ((w.alloc (.cells #[.int .i64 0, .slice none 0 0] 30)).alloc (.cells (madeCells #[.int .u64 0] K) 39)) 30 #[.int .i64 n, .slice (some ⟨w.heap.size + 1, 0, none⟩) K K]
    simpa using this
  have hOD : OwnW wb (some ⟨w.heap.size + 1, 0, none⟩) K K (laidL n g 0) := by
    rw [hwb, HZ.out]
    have := Own.ofMade (m := 1) (w.alloc (.cells #[.int .i64 0, .slice none 0 0] 30)) 39 ucell (fun _ => rfl) (by decide) 0 K (show K ≤ 9223372036854775807 by omega) rfl
    have h2 := Own.frm this ((Frm.refl (fun _ => False) _).alloc (.cells #[.int .i64 n, .slice (some ⟨w.heap.size + 1, 0, none⟩) K K] 30)) (fun _ _ => id)
    simpa [ucell] using h2
  clear hwb hmk
  obtain ⟨T, hT⟩ : ∃ T, w.heap.size + 1 + 1 = T := ⟨_, rfl⟩
  rw [hT] at hBT ⊢
  obtain ⟨D, hD⟩ : ∃ D, w.heap.size + 1 = D := ⟨_, rfl⟩
  rw [hD] at hBT hOD ⊢
  have hnDT : D ≠ T := by omega
  have hnRT : w.heap.size ≠ T := by omega
  have hnRD : w.heap.size ≠ D := by omega
  have hwD : w.heap.size ≤ D := by omega
  have hwT : w.heap.size ≤ T := by omega
  clear hD hT
  have hc1 : wb.cell? ⟨T, 1, none⟩ = some (.slice (some ⟨D, 0, none⟩) K K) := hBT.cell 1
  have hlt0 := hBT.lt
  have HBR := Lib.hid hBR
  have HBT := Lib.hid hBT
  have HOD := Lib.hid hOD
  have HSB := Lib.hid hsb
  clear hBR hBT hOD hsb
  go_wp2
  go_loopw [15] (fun i wr => ∃ k : Nat, k ≤ K ∧ i = .int .i64 k ∧ Same w wr ∧ Blk wr w.heap.size 30 #[.int .i64 0, .slice none 0 0] ∧ Blk wr T 30 #[.int .i64 n, .slice (some ⟨D, 0, none⟩) K K] ∧ OwnW wr (some ⟨D, 0, none⟩) K K (laidL n g k)) (fun i _ => K - (intOf i).toNat)
  case atStart => exact ⟨0, by omega, rfl, HSB.out, HBR.out, HBT.out, HOD.out⟩
  case round =>
    clear HBR HBT HOD HSB hc1 hlt0
    obtain ⟨k, hk, rfl, hs, hBR, hBT, hOD⟩ := hrel
    have HS := Lib.hid hs
    have HBR := Lib.hid hBR
    have HBT := Lib.hid hBT
    have HOD := Lib.hid hOD
    have hcT0 : wr.cell? ⟨T, 0, none⟩ = some (.int .i64 n) := hBT.cell 0
    have hcT : wr.cell? ⟨T, 1, none⟩ = some (.slice (some ⟨D, 0, none⟩) K K) := hBT.cell 1
    have hTl := hBT.lt
    have hRl := hBR.lt
    have hfR0 := hBR.free 0
    have hfR1 := hBR.free 1
    have hcR0 : wr.cell? ⟨w.heap.size, 0, none⟩ = some (.int .i64 0) := hBR.cell 0
    have hcR1 : wr.cell? ⟨w.heap.size, 1, none⟩ = some (.slice none 0 0) := hBR.cell 1
    by_cases hlt : k < K
    · have hi1 : (k : Int) < K := by omega
      have hi0 : (0 : Int) ≤ k := by omega
      obtain ⟨x, hx⟩ : ∃ x, (laidL n g k)[k]? = some x := ⟨_, List.getElem?_eq_getElem (by rw [HLL.out]; exact hlt)⟩
      obtain ⟨sb, hsb, hDl, hcD⟩ := hOD.at1 (c := fun x : Nat => .int .u64 (x : Int)) hx
      injection hsb with hsb
      injection hsb with hsb
      subst hsb
      have hfD := Own.free hOD k
      obtain ⟨hgl, hgc⟩ := HC.out k hlt
      obtain ⟨gk, hgk⟩ : ∃ gk, g k = gk := ⟨_, rfl⟩
      have hst := fun (w' : World) (hs' : Same wr w') => Own.put1 (c := fun x : Nat => .int .u64 (x : Int)) (Own.frm hOD hs' (fun _ _ => id)) (i := k) (by rw [HLL.out]; exact hlt) (g k &&& fu)
      rw [HSET.out k hlt] at hst
      rw [hgk] at hgl hgc hst
      have hand := u64_and_nat gk fu hgl hfl
      have HGC := Lib.hid (fun w' (h : Same wr w') => hgc w' (hs.trans h (fun _ _ h => h)))
      have HST := Lib.hid hst
      clear hs hBR hBT hOD hx hgc hgk hst
      go_upto_region 5 with fail
      refine wp_quiet_tail 10 (by kernel_rfl) (by kernel_rfl) ?_
      simp only [List.take_succ_cons, List.take_zero, List.drop_succ_cons, List.drop_zero]
      repeat (any_goals (first | go_big_quiet_step (first | (go_at_call 25; exact quiet_call ((HFU.out _).mono fun e w' h => ⟨h.1, h.2 ▸ Frm.refl _ _⟩)) | exact quiet_call (HGC.out _ (more_same _ _))) | quiet_step (first | (go_at_call 25; exact quiet_call ((HFU.out _).mono fun e w' h => ⟨h.1, h.2 ▸ Frm.refl _ _⟩)) | exact quiet_call (HGC.out _ (more_same _ _)))))
      refine wpQuiet_nil ?_
      rintro wz ⟨q, hq⟩
      have hsz : Same wr wz := by rw [hq]; exact more_same _ q
      have hfz := Own.free (Own.frm HOD.out hsz (fun _ _ => id)) k
      have hcz := (hsz.cell (p := ⟨D, k, none⟩) hDl id).trans hcD
      have HSZ := Lib.hid ((HS.out.trans hsz (fun _ _ h => h)).setNew (g := D) k (.int .u64 ((gk &&& fu : Nat) : Int)) hwD)
      have HBRz := Lib.hid ((HBR.out.frm hsz id).far (p := ⟨D, k, none⟩) hnRD (.int .u64 ((gk &&& fu : Nat) : Int)))
      have HBTz := Lib.hid ((HBT.out.frm hsz id).far (p := ⟨D, k, none⟩) (Ne.symm hnDT) (.int .u64 ((gk &&& fu : Nat) : Int)))
      have HOZ := Lib.hid (HST.out wz hsz)
      have hDz : D < wz.heap.size := by have := hsz.size; omega
      clear hq hsz hcD hfD hDl hcT0 hcT hcR0 hcR1 hfR0 hfR1 hTl hRl hen
      go_wp2
      go_roundw
      case rel => exact ⟨k + 1, by omega, by go_num, HSZ.out, HBRz.out, HBTz.out, HOZ.out⟩
      case measure => simp [intOf] <;> omega
    · obtain rfl : k = K := by omega
      clear hs hBR hBT hOD
      go_wp2
      refine wp_post fun we hwe => ?_
      have hBE : Blk we w.heap.size 30 #[.int .i64 n, .slice (some ⟨D, 0, none⟩) k k] := by
        rw [hwe]
        have := (HBR.out.set 0 (.int .i64 n)).set 1 (.slice (some ⟨D, 0, none⟩) k k)
        simpa using this
      have hOE : OwnW we (some ⟨D, 0, none⟩) k k (laidL n g k) := by
        rw [hwe]
        exact (Own.far (p := ⟨w.heap.size, 0, none⟩) HOD.out (fun a ha h => by injection ha with ha; subst ha; exact hnRD h.symm) _).far (p := ⟨w.heap.size, 1, none⟩) (fun a ha h => by injection ha with ha; subst ha; exact hnRD h.symm) _
      have hSE : Same w we := by rw [hwe]; exact (HS.out.setNew 0 _ (Nat.le_refl _)).setNew 1 _ (Nat.le_refl _)
      have hc0 : we.cell? ⟨w.heap.size, 0, none⟩ = some (.int .i64 n) := hBE.cell 0
      have hc1 : we.cell? ⟨w.heap.size, 1, none⟩ = some (.slice (some ⟨D, 0, none⟩) k k) := hBE.cell 1
      clear hwe hBE
      refine bodyPost_ret (v := .agg #[.int .i64 n, .slice (some ⟨D, 0, none⟩) k k]) (by simp [results, Try.results14, go_sem, hc0, hc1]) rfl ?_
      refine ⟨some ⟨D, 0, none⟩, k, by rw [HLL.out], ?_, fresh_some hwD, hSE⟩
      rw [HLL.out]
      exact hOE
end Go.Proofs.Ytjgndclfbcijmaa


/- Truth tables: column of the program. -/
namespace Go.Proofs.Ytjgndclfbcijmaa
open Go.RowKit Go.Tk

theorem i64_and_nat (a b : Nat) (ha : a < 9223372036854775808) (hb : b < 9223372036854775808) : bits .and .i64 (a : Int) (b : Int) = ((a &&& b : Nat) : Int) := by
  have hx : a &&& b < 2 ^ 63 := Nat.and_lt_two_pow _ (by omega)
  show IntKind.i64.wrap ((BitVec.ofInt 64 (a : Int) &&& BitVec.ofInt 64 (b : Int)).toNat : Int) = _
  rw [BitVec.toNat_and, ofInt_u64 a (by omega), ofInt_u64 b (by omega)]
  exact IntWalk.i64_in _ (by omega)
theorem i64_or_nat (a b : Nat) (ha : a < 9223372036854775808) (hb : b < 9223372036854775808) : bits .or .i64 (a : Int) (b : Int) = ((a ||| b : Nat) : Int) := by
  have hx : a ||| b < 2 ^ 63 := Nat.or_lt_two_pow (by omega) (by omega)
  show IntKind.i64.wrap ((BitVec.ofInt 64 (a : Int) ||| BitVec.ofInt 64 (b : Int)).toNat : Int) = _
  rw [BitVec.toNat_or, ofInt_u64 a (by omega), ofInt_u64 b (by omega)]
  exact IntWalk.i64_in _ (by omega)
theorem i64_andNot_nat (a b : Nat) (ha : a < 9223372036854775808) (hb : b < 9223372036854775808) : bits .andNot .i64 (a : Int) (b : Int) = ((a &&& (18446744073709551615 - b) : Nat) : Int) := by
  have hx : a &&& (18446744073709551615 - b) < 2 ^ 63 := Nat.lt_of_le_of_lt Nat.and_le_left (by omega)
  show IntKind.i64.wrap ((BitVec.ofInt 64 (a : Int) &&& ~~~BitVec.ofInt 64 (b : Int)).toNat : Int) = _
  rw [BitVec.toNat_and, BitVec.toNat_not, ofInt_u64 a (by omega), ofInt_u64 b (by omega)]
  have e : 2 ^ 64 - 1 - b = 18446744073709551615 - b := by omega
  rw [e]
  exact IntWalk.i64_in _ (by omega)
theorem bsum_or (F : Nat → Bool) (j : Nat) : bsum F j ||| (if F j then 2 ^ j else 0) = bsum F (j + 1) := by
  have h := bsum_lt F j
  rw [bsum]
  cases hF : F j with
  | false => simp
  | true =>
    have h2 := Nat.two_pow_add_eq_or_of_lt h 1
    rw [Nat.mul_one] at h2
    simp only [if_true]
    rw [Nat.or_comm, ← h2, Nat.add_comm]
/-- the word i of the variable v -/
def colN (v i : Nat) : Nat := if v < 6 then bsum (fun j => j.testBit v) 64 else if i.testBit (v - 6) then 18446744073709551615 else 0
theorem colN_lt (v i : Nat) : colN v i < 18446744073709551616 := by
  unfold colN
  split
  · exact bsum_lt _ 64
  · split <;> omega
theorem colN_bit {v i j : Nat} (hj : j < 64) : (colN v i).testBit j = (64 * i + j).testBit v := by
  have h := Nat.testBit_two_pow_mul_add i (show j < 2 ^ 6 from hj) v
  rw [show (64 : Nat) * i + j = 2 ^ 6 * i + j from rfl, h]
  unfold colN
  by_cases h6 : v < 6
  · rw [if_pos h6, if_pos h6, bsum_bit]
    simp [hj]
  · rw [if_neg h6, if_neg h6]
    cases i.testBit (v - 6) with
    | false => simp
    | true =>
      rw [if_pos rfl, show (18446744073709551615 : Nat) = 2 ^ 64 - 1 by decide, Nat.testBit_two_pow_sub_one]
      simpa using hj
theorem testBit_dm (x k : Nat) : x.testBit k = decide (x / 2 ^ k % 2 = 1) := by
  rw [Nat.testBit_eq_decide_div_mod_eq]
theorem colN_top (k i : Nat) (hi : i < 1024) : IntKind.u64.wrap (-bits .and .u64 ((i : Int) / ((2 ^ k : Nat) : Int)) 1) = ((colN (6 + k) i : Nat) : Int) := by
  have h1 : i / 2 ^ k ≤ i := Nat.div_le_self _ _
  have h2 : ((i : Int) / ((2 ^ k : Nat) : Int)) = ((i / 2 ^ k : Nat) : Int) := (Int.natCast_ediv i (2 ^ k)).symm
  have h3 := u64_and_nat (i / 2 ^ k) 1 (by omega) (by omega)
  rw [nat_mask1] at h3
  rw [h2, show (1 : Int) = ((1 : Nat) : Int) from rfl, h3]
  unfold colN
  rw [if_neg (by omega), show 6 + k - 6 = k by omega, testBit_dm]
  generalize i / 2 ^ k = x
  rcases Nat.mod_two_eq_zero_or_one x with h | h
  · rw [h]; decide
  · rw [h]; decide
theorem col_step (F : Nat → Bool) (k m : Nat) (hm : m < 64) (hF : F = fun j : Nat => j.testBit k) :
    bits .and .i64 ((m : Int) / ((2 ^ k : Nat) : Int)) 1 = ((m / 2 ^ k % 2 : Nat) : Int) ∧ IntKind.u64.wrap ((m / 2 ^ k % 2 : Nat) : Int) = ((m / 2 ^ k % 2 : Nat) : Int) ∧
    IntKind.u64.wrap (((m / 2 ^ k % 2 : Nat) : Int) * 2 ^ m) = (((if F m then 2 ^ m else 0) : Nat) : Int) ∧ bits .or .u64 (bsum F m : Nat) (((if F m then 2 ^ m else 0) : Nat) : Int) = (bsum F (m + 1) : Nat) := by
  have h1 : m / 2 ^ k ≤ m := Nat.div_le_self _ _
  have h2 : ((m : Int) / ((2 ^ k : Nat) : Int)) = ((m / 2 ^ k : Nat) : Int) := (Int.natCast_ediv m (2 ^ k)).symm
  have h3 := i64_and_nat (m / 2 ^ k) 1 (by omega) (by omega)
  rw [nat_mask1] at h3
  have hFm : F m = decide (m / 2 ^ k % 2 = 1) := by rw [hF]; exact testBit_dm m k
  have hp : 2 ^ m ≤ 2 ^ 63 := Nat.pow_le_pow_right (by omega) (by omega)
  have hb := bsum_lt F m
  have ho := bsum_or F m
  refine ⟨by rw [h2, show (1 : Int) = ((1 : Nat) : Int) from rfl, h3], IntWalk.u64_in _ (by omega), ?_, ?_⟩
  · rw [hFm, pow_int]
    generalize 2 ^ m = p at hp
    rcases Nat.mod_two_eq_zero_or_one (m / 2 ^ k) with h | h
    · rw [h]; simp; decide
    · rw [h]; simp; exact IntWalk.u64_in _ (by omega)
  · rw [← ho]
    refine u64_or_nat _ _ (by omega) ?_
    split <;> omega
set_option maxHeartbeats 4000000 in
theorem column_any (v i : Nat) (w : World) (hv : v < 16) (hi : i < 1024) : Calls Try.prog 16 #[.int .i64 v, .int .i64 i] w fun e w' => e = .returned (.int .u64 (colN v i : Nat)) ∧ w = w' := by
  by_cases h6 : 6 ≤ v
  · obtain rfl | rfl | rfl | rfl | rfl | rfl | rfl | rfl | rfl | rfl : v = 6 ∨ v = 7 ∨ v = 8 ∨ v = 9 ∨ v = 10 ∨ v = 11 ∨ v = 12 ∨ v = 13 ∨ v = 14 ∨ v = 15 := by omega
    · go_enter Try.func16, Try.ntmps16
      go_wp2
      go_ret
      have h := colN_top 0 i hi
      rw [Nat.pow_zero, show ((1 : Nat) : Int) = 1 from rfl, Int.ediv_one] at h
      exact ⟨ret_int h, rfl⟩
    · go_enter Try.func16, Try.ntmps16
      go_wp2
      go_ret
      exact ⟨ret_int (colN_top 1 i hi), rfl⟩
    · go_enter Try.func16, Try.ntmps16
      go_wp2
      go_ret
      exact ⟨ret_int (colN_top 2 i hi), rfl⟩
    · go_enter Try.func16, Try.ntmps16
      go_wp2
      go_ret
      exact ⟨ret_int (colN_top 3 i hi), rfl⟩
    · go_enter Try.func16, Try.ntmps16
      go_wp2
      go_ret
      exact ⟨ret_int (colN_top 4 i hi), rfl⟩
    · go_enter Try.func16, Try.ntmps16
      go_wp2
      go_ret
      exact ⟨ret_int (colN_top 5 i hi), rfl⟩
    · go_enter Try.func16, Try.ntmps16
      go_wp2
      go_ret
      exact ⟨ret_int (colN_top 6 i hi), rfl⟩
    · go_enter Try.func16, Try.ntmps16
      go_wp2
      go_ret
      exact ⟨ret_int (colN_top 7 i hi), rfl⟩
    · go_enter Try.func16, Try.ntmps16
      go_wp2
      go_ret
      exact ⟨ret_int (colN_top 8 i hi), rfl⟩
    · go_enter Try.func16, Try.ntmps16
      go_wp2
      go_ret
      exact ⟨ret_int (colN_top 9 i hi), rfl⟩
  · obtain rfl | rfl | rfl | rfl | rfl | rfl : v = 0 ∨ v = 1 ∨ v = 2 ∨ v = 3 ∨ v = 4 ∨ v = 5 := by omega
    · obtain ⟨F, hF⟩ : ∃ F, (fun j : Nat => j.testBit 0) = F := ⟨_, rfl⟩
      have hfin : bsum F 64 = colN 0 i := by rw [← hF]; rfl
      have HF := Lib.hid hF
      have HFIN := Lib.hid hfin
      clear hF hfin h6 hv
      go_enter Try.func16, Try.ntmps16
      go_wp2
      go_loopw [5, 16] (fun s j wr => ∃ m : Nat, m ≤ 64 ∧ j = .int .i64 m ∧ s = .int .u64 (bsum F m : Nat) ∧ w = wr) (fun _ j _ => 64 - (intOf j).toNat)
      case atStart => exact ⟨0, by omega, rfl, rfl, rfl⟩
      case round =>
        obtain ⟨m, hm, rfl, rfl, rfl⟩ := hrel
        by_cases hlt : m < 64
        · have hm1 : (m : Int) < 64 := by omega
          have hm0 : (0 : Int) ≤ m := by omega
          obtain ⟨hq1, hq2, hq3, hq4⟩ := col_step F 0 m hlt HF.out.symm
          generalize m / 2 ^ 0 % 2 = r at hq1 hq2 hq3
          generalize (if F m then 2 ^ m else 0) = p at hq3 hq4
          have hq5 : bits .and .i64 (m : Int) 1 = (r : Int) := by rw [Nat.pow_zero, show ((1 : Nat) : Int) = 1 from rfl, Int.ediv_one] at hq1; exact hq1
          clear hq1
          go_upto_region 7 with fail
          refine wp_read 9 ?_
          simp only [List.take_succ_cons, List.take_zero, List.drop_succ_cons, List.drop_zero]
          repeat (any_goals (first | go_big_quiet_step (fail) | quiet_step (fail)))
          refine wpQuiet_nil ?_
          clear hq2 hq3 hq4 hq5
          go_wp2
          go_roundw
          case rel => exact ⟨m + 1, by omega, by go_num, rfl, trivial⟩
          case measure => simp [intOf] <;> omega
        · obtain rfl : m = 64 := by omega
          rw [HFIN.out]
          go_wp2
          go_ret
          exact ⟨rfl, rfl⟩
    · obtain ⟨F, hF⟩ : ∃ F, (fun j : Nat => j.testBit 1) = F := ⟨_, rfl⟩
      have hfin : bsum F 64 = colN 1 i := by rw [← hF]; rfl
      have HF := Lib.hid hF
      have HFIN := Lib.hid hfin
      clear hF hfin h6 hv
      go_enter Try.func16, Try.ntmps16
      go_wp2
      go_loopw [5, 16] (fun s j wr => ∃ m : Nat, m ≤ 64 ∧ j = .int .i64 m ∧ s = .int .u64 (bsum F m : Nat) ∧ w = wr) (fun _ j _ => 64 - (intOf j).toNat)
      case atStart => exact ⟨0, by omega, rfl, rfl, rfl⟩
      case round =>
        obtain ⟨m, hm, rfl, rfl, rfl⟩ := hrel
        by_cases hlt : m < 64
        · have hm1 : (m : Int) < 64 := by omega
          have hm0 : (0 : Int) ≤ m := by omega
          obtain ⟨hq1, hq2, hq3, hq4⟩ := col_step F 1 m hlt HF.out.symm
          generalize m / 2 ^ 1 % 2 = r at hq1 hq2 hq3
          generalize (if F m then 2 ^ m else 0) = p at hq3 hq4
          have hq5 : bits .and .i64 ((m : Int) / 2) 1 = (r : Int) := hq1
          clear hq1
          go_upto_region 7 with fail
          refine wp_read 9 ?_
          simp only [List.take_succ_cons, List.take_zero, List.drop_succ_cons, List.drop_zero]
          repeat (any_goals (first | go_big_quiet_step (fail) | quiet_step (fail)))
          refine wpQuiet_nil ?_
          clear hq2 hq3 hq4 hq5
          go_wp2
          go_roundw
          case rel => exact ⟨m + 1, by omega, by go_num, rfl, trivial⟩
          case measure => simp [intOf] <;> omega
        · obtain rfl : m = 64 := by omega
          rw [HFIN.out]
          go_wp2
          go_ret
          exact ⟨rfl, rfl⟩
    · obtain ⟨F, hF⟩ : ∃ F, (fun j : Nat => j.testBit 2) = F := ⟨_, rfl⟩
      have hfin : bsum F 64 = colN 2 i := by rw [← hF]; rfl
      have HF := Lib.hid hF
      have HFIN := Lib.hid hfin
      clear hF hfin h6 hv
      go_enter Try.func16, Try.ntmps16
      go_wp2
      go_loopw [5, 16] (fun s j wr => ∃ m : Nat, m ≤ 64 ∧ j = .int .i64 m ∧ s = .int .u64 (bsum F m : Nat) ∧ w = wr) (fun _ j _ => 64 - (intOf j).toNat)
      case atStart => exact ⟨0, by omega, rfl, rfl, rfl⟩
      case round =>
        obtain ⟨m, hm, rfl, rfl, rfl⟩ := hrel
        by_cases hlt : m < 64
        · have hm1 : (m : Int) < 64 := by omega
          have hm0 : (0 : Int) ≤ m := by omega
          obtain ⟨hq1, hq2, hq3, hq4⟩ := col_step F 2 m hlt HF.out.symm
          generalize m / 2 ^ 2 % 2 = r at hq1 hq2 hq3
          generalize (if F m then 2 ^ m else 0) = p at hq3 hq4
          have hq5 : bits .and .i64 ((m : Int) / 4) 1 = (r : Int) := hq1
          clear hq1
          go_upto_region 7 with fail
          refine wp_read 9 ?_
          simp only [List.take_succ_cons, List.take_zero, List.drop_succ_cons, List.drop_zero]
          repeat (any_goals (first | go_big_quiet_step (fail) | quiet_step (fail)))
          refine wpQuiet_nil ?_
          clear hq2 hq3 hq4 hq5
          go_wp2
          go_roundw
          case rel => exact ⟨m + 1, by omega, by go_num, rfl, trivial⟩
          case measure => simp [intOf] <;> omega
        · obtain rfl : m = 64 := by omega
          rw [HFIN.out]
          go_wp2
          go_ret
          exact ⟨rfl, rfl⟩
    · obtain ⟨F, hF⟩ : ∃ F, (fun j : Nat => j.testBit 3) = F := ⟨_, rfl⟩
      have hfin : bsum F 64 = colN 3 i := by rw [← hF]; rfl
      have HF := Lib.hid hF
      have HFIN := Lib.hid hfin
      clear hF hfin h6 hv
      go_enter Try.func16, Try.ntmps16
      go_wp2
      go_loopw [5, 16] (fun s j wr => ∃ m : Nat, m ≤ 64 ∧ j = .int .i64 m ∧ s = .int .u64 (bsum F m : Nat) ∧ w = wr) (fun _ j _ => 64 - (intOf j).toNat)
      case atStart => exact ⟨0, by omega, rfl, rfl, rfl⟩
      case round =>
        obtain ⟨m, hm, rfl, rfl, rfl⟩ := hrel
        by_cases hlt : m < 64
        · have hm1 : (m : Int) < 64 := by omega
          have hm0 : (0 : Int) ≤ m := by omega
          obtain ⟨hq1, hq2, hq3, hq4⟩ := col_step F 3 m hlt HF.out.symm
          generalize m / 2 ^ 3 % 2 = r at hq1 hq2 hq3
          generalize (if F m then 2 ^ m else 0) = p at hq3 hq4
          have hq5 : bits .and .i64 ((m : Int) / 8) 1 = (r : Int) := hq1
          clear hq1
          go_upto_region 7 with fail
          refine wp_read 9 ?_
          simp only [List.take_succ_cons, List.take_zero, List.drop_succ_cons, List.drop_zero]
          repeat (any_goals (first | go_big_quiet_step (fail) | quiet_step (fail)))
          refine wpQuiet_nil ?_
          clear hq2 hq3 hq4 hq5
          go_wp2
          go_roundw
          case rel => exact ⟨m + 1, by omega, by go_num, rfl, trivial⟩
          case measure => simp [intOf] <;> omega
        · obtain rfl : m = 64 := by omega
          rw [HFIN.out]
          go_wp2
          go_ret
          exact ⟨rfl, rfl⟩
    · obtain ⟨F, hF⟩ : ∃ F, (fun j : Nat => j.testBit 4) = F := ⟨_, rfl⟩
      have hfin : bsum F 64 = colN 4 i := by rw [← hF]; rfl
      have HF := Lib.hid hF
      have HFIN := Lib.hid hfin
      clear hF hfin h6 hv
      go_enter Try.func16, Try.ntmps16
      go_wp2
      go_loopw [5, 16] (fun s j wr => ∃ m : Nat, m ≤ 64 ∧ j = .int .i64 m ∧ s = .int .u64 (bsum F m : Nat) ∧ w = wr) (fun _ j _ => 64 - (intOf j).toNat)
      case atStart => exact ⟨0, by omega, rfl, rfl, rfl⟩
      case round =>
        obtain ⟨m, hm, rfl, rfl, rfl⟩ := hrel
        by_cases hlt : m < 64
        · have hm1 : (m : Int) < 64 := by omega
          have hm0 : (0 : Int) ≤ m := by omega
          obtain ⟨hq1, hq2, hq3, hq4⟩ := col_step F 4 m hlt HF.out.symm
          generalize m / 2 ^ 4 % 2 = r at hq1 hq2 hq3
          generalize (if F m then 2 ^ m else 0) = p at hq3 hq4
          have hq5 : bits .and .i64 ((m : Int) / 16) 1 = (r : Int) := hq1
          clear hq1
          go_upto_region 7 with fail
          refine wp_read 9 ?_
          simp only [List.take_succ_cons, List.take_zero, List.drop_succ_cons, List.drop_zero]
          repeat (any_goals (first | go_big_quiet_step (fail) | quiet_step (fail)))
          refine wpQuiet_nil ?_
          clear hq2 hq3 hq4 hq5
          go_wp2
          go_roundw
          case rel => exact ⟨m + 1, by omega, by go_num, rfl, trivial⟩
          case measure => simp [intOf] <;> omega
        · obtain rfl : m = 64 := by omega
          rw [HFIN.out]
          go_wp2
          go_ret
          exact ⟨rfl, rfl⟩
    · obtain ⟨F, hF⟩ : ∃ F, (fun j : Nat => j.testBit 5) = F := ⟨_, rfl⟩
      have hfin : bsum F 64 = colN 5 i := by rw [← hF]; rfl
      have HF := Lib.hid hF
      have HFIN := Lib.hid hfin
      clear hF hfin h6 hv
      go_enter Try.func16, Try.ntmps16
      go_wp2
      go_loopw [5, 16] (fun s j wr => ∃ m : Nat, m ≤ 64 ∧ j = .int .i64 m ∧ s = .int .u64 (bsum F m : Nat) ∧ w = wr) (fun _ j _ => 64 - (intOf j).toNat)
      case atStart => exact ⟨0, by omega, rfl, rfl, rfl⟩
      case round =>
        obtain ⟨m, hm, rfl, rfl, rfl⟩ := hrel
        by_cases hlt : m < 64
        · have hm1 : (m : Int) < 64 := by omega
          have hm0 : (0 : Int) ≤ m := by omega
          obtain ⟨hq1, hq2, hq3, hq4⟩ := col_step F 5 m hlt HF.out.symm
          generalize m / 2 ^ 5 % 2 = r at hq1 hq2 hq3
          generalize (if F m then 2 ^ m else 0) = p at hq3 hq4
          have hq5 : bits .and .i64 ((m : Int) / 32) 1 = (r : Int) := hq1
          clear hq1
          go_upto_region 7 with fail
          refine wp_read 9 ?_
          simp only [List.take_succ_cons, List.take_zero, List.drop_succ_cons, List.drop_zero]
          repeat (any_goals (first | go_big_quiet_step (fail) | quiet_step (fail)))
          refine wpQuiet_nil ?_
          clear hq2 hq3 hq4 hq5
          go_wp2
          go_roundw
          case rel => exact ⟨m + 1, by omega, by go_num, rfl, trivial⟩
          case measure => simp [intOf] <;> omega
        · obtain rfl : m = 64 := by omega
          rw [HFIN.out]
          go_wp2
          go_ret
          exact ⟨rfl, rfl⟩
end Go.Proofs.Ytjgndclfbcijmaa


/- math/bits.OnesCount64: walked. -/
namespace Go.Proofs.Ytjgndclfbcijmaa
open Go.RowKit Go.Tk

end Go.Proofs.Ytjgndclfbcijmaa


/- Truth tables: Const and Var of the program. -/
namespace Go.Proofs.Ytjgndclfbcijmaa
open Go.RowKit Go.Tk

theorem var1_any (i v B : Nat) (w : World) (hv : v < 16) (hi : i < 1024) (hc : w.cell? ⟨B, 0, none⟩ = some (.int .i64 v)) :
    Calls Try.prog 15 #[.int .i64 i, .pointer (some ⟨B, 0, none⟩)] w fun e w' => e = .returned (.int .u64 (colN v i : Nat)) ∧ w = w' := by
  go_enter Try.func15, Try.ntmps15
  go_wp2_with (fail)
  refine (column_any v i w hv hi).mono ?_
  rintro e w2 ⟨rfl, rfl⟩
  go_wp2
  go_ret
  exact ⟨rfl, rfl⟩
/-- the words laid for a function -/
theorem laid_tab {n : Nat} {g : Nat → Nat} {F : Nat → Bool} (h : ∀ k, k < nw n → ∀ j, j < 64 → 64 * k + j < 2 ^ n → (g k).testBit j = F (64 * k + j)) : ((List.range (nw n)).map fun i => g i &&& fullN n) = tab n F := by
  unfold tab
  apply List.map_congr_left
  intro k hk
  exact word_laid (List.mem_range.1 hk) (h k (List.mem_range.1 hk))
/-- the answer: the table where there is no error -/
def ansN (n : Int) (e : Int) : Int := if e = 0 then n else 0
def ansL (ws : List Nat) (e : Int) : List Nat := if e = 0 then ws else []
/-- a call that answers a table and an error -/
def RetA (w : World) (n : Int) (ws : List Nat) (err : Int) : Ending → World → Prop := RetTE w (ansN n err) (ansL ws err) err
def varE (n v : Int) : Int := if cntE n ≠ 0 then cntE n else if v < 0 ∨ n ≤ v then 2 else 0
def varF (v : Nat) : Nat → Bool := fun i => i.testBit v
theorem cntE_ok {n : Int} (h : cntE n = 0) : 0 ≤ n ∧ n ≤ 16 := by
  unfold cntE at h
  split at h
  · cases h
  · split at h
    · cases h
    · omega

set_option maxHeartbeats 2000000 in
theorem Var_any (n v : Int) (w : World) : Calls Try.prog 6 #[.int .i64 n, .int .i64 v] w (RetA w n (tab n.toNat (varF v.toNat)) (varE n v)) := by
  have hmf : ∀ (fn : Fn) (first cap : Array Value) (w : World), (Instr.makeFunc fn first cap).run Try.prog w = .ok (.func fn first cap) w := fun _ _ _ _ => rfl
  have hct := fun w => count_any n w
  obtain ⟨c, hc⟩ : ∃ c, cntE n = c := ⟨_, rfl⟩
  rw [hc] at hct
  have HCT := Lib.hid hct
  clear hct
  by_cases h0 : ¬ c = 0
  · have he : varE n v = c := by unfold varE; rw [hc, if_pos h0]
    have h0' : (c != 0) = true := by simpa using h0
    unfold RetA
    rw [he, show ansN n c = 0 by unfold ansN; rw [if_neg h0], show ansL (tab n.toNat (varF v.toNat)) c = [] by unfold ansL; rw [if_neg h0]]
    clear he hc h0 hmf
    go_enter Try.func6, Try.ntmps6
    go_upto_region 1 with fail
    refine wp_world fun w1 hw1 => ?_
    have hs1 : Same w w1 := by rw [hw1]; exact ((Frm.refl _ _).alloc _).alloc _
    have hBB : Blk w1 (w.heap.size) 3 #[.int .i64 v] := by
      rw [hw1]
      have := ((Blk.new w 3 #[.int .i64 v]).alloc (.cells #[.int .i64 0, .slice none 0 0] 30))
      simpa using this
    have hBR : Blk w1 (w.heap.size + 1) 30 #[.int .i64 0, .slice none 0 0] := by
      rw [hw1]
      have := (Blk.new (w.alloc (.cells #[.int .i64 v] 3)) 30 #[.int .i64 0, .slice none 0 0])
      simpa using this
    clear hw1
    obtain ⟨R, hR⟩ : ∃ b, w.heap.size + 1 = b := ⟨_, rfl⟩
    rw [hR] at hBR ⊢
    have leR : w.heap.size ≤ R := by omega
    have neBR : w.heap.size ≠ R := by omega
    clear hR
    have cB0 : w1.cell? ⟨w.heap.size, 0, none⟩ = some (.int .i64 v) := hBB.cell 0
    have lB := hBB.lt
    have fB0 := hBB.free 0
    have HBB := Lib.hid hBB
    have cR0 : w1.cell? ⟨R, 0, none⟩ = some (.int .i64 0) := hBR.cell 0
    have cR1 : w1.cell? ⟨R, 1, none⟩ = some (.slice none 0 0) := hBR.cell 1
    have lR := hBR.lt
    have fR0 := hBR.free 0
    have fR1 := hBR.free 1
    have HBR := Lib.hid hBR
    have HS1 := Lib.hid hs1
    clear hs1 hBB hBR
    go_wp2_with (fail)
    refine (HCT.out w1).mono ?_
    rintro e w2 ⟨rfl, rfl⟩
    go_wp2
    refine wp_post fun we hwe => ?_
    have hBE : Blk we R 30 #[.int .i64 0, .slice none 0 0] := by
      rw [hwe]
      have := (HBR.out.set 0 (.int .i64 0)).set 1 (.slice none 0 0)
      simpa using this
    have hSE : Same w we := by rw [hwe]; exact (HS1.out.setNew 0 _ leR).setNew 1 _ leR
    have hr0 : we.cell? ⟨R, 0, none⟩ = some (.int .i64 0) := hBE.cell 0
    have hr1 : we.cell? ⟨R, 1, none⟩ = some (.slice none 0 0) := hBE.cell 1
    clear hwe hBE
    refine bodyPost_ret (v := .tuple #[.agg #[.int .i64 0, .slice none 0 0], .int .i64 c]) (by simp [results, Try.results6, go_sem, hr0, hr1]) rfl ?_
    exact ⟨none, 0, rfl, NewT.nil hSE⟩
  replace h0 : c = 0 := by omega
  subst h0
  obtain ⟨hn0, hn16⟩ := cntE_ok hc
  obtain ⟨N, rfl⟩ := Int.eq_ofNat_of_zero_le hn0
  have hn : N ≤ 16 := by omega
  by_cases h1 : v < 0 ∨ (N : Int) ≤ v
  · have he : varE N v = 2 := by unfold varE; rw [hc, if_neg (by simp), if_pos h1]
    unfold RetA
    rw [he, show ansN N 2 = 0 from rfl, show ansL (tab (N : Int).toNat (varF v.toNat)) 2 = [] from rfl]
    clear he hc hmf
    by_cases h2 : v < 0
    · clear h1
      go_enter Try.func6, Try.ntmps6
      go_upto_region 1 with fail
      refine wp_world fun w1 hw1 => ?_
      have hs1 : Same w w1 := by rw [hw1]; exact ((Frm.refl _ _).alloc _).alloc _
      have hBB : Blk w1 (w.heap.size) 3 #[.int .i64 v] := by
        rw [hw1]
        have := ((Blk.new w 3 #[.int .i64 v]).alloc (.cells #[.int .i64 0, .slice none 0 0] 30))
        simpa using this
      have hBR : Blk w1 (w.heap.size + 1) 30 #[.int .i64 0, .slice none 0 0] := by
        rw [hw1]
        have := (Blk.new (w.alloc (.cells #[.int .i64 v] 3)) 30 #[.int .i64 0, .slice none 0 0])
        simpa using this
      clear hw1
      obtain ⟨R, hR⟩ : ∃ b, w.heap.size + 1 = b := ⟨_, rfl⟩
      rw [hR] at hBR ⊢
      have leR : w.heap.size ≤ R := by omega
      have neBR : w.heap.size ≠ R := by omega
      clear hR
      have cB0 : w1.cell? ⟨w.heap.size, 0, none⟩ = some (.int .i64 v) := hBB.cell 0
      have lB := hBB.lt
      have fB0 := hBB.free 0
      have HBB := Lib.hid hBB
      have cR0 : w1.cell? ⟨R, 0, none⟩ = some (.int .i64 0) := hBR.cell 0
      have cR1 : w1.cell? ⟨R, 1, none⟩ = some (.slice none 0 0) := hBR.cell 1
      have lR := hBR.lt
      have fR0 := hBR.free 0
      have fR1 := hBR.free 1
      have HBR := Lib.hid hBR
      have HS1 := Lib.hid hs1
      clear hs1 hBB hBR
      go_wp2_with (fail)
      refine (HCT.out w1).mono ?_
      rintro e w2 ⟨rfl, rfl⟩
      go_wp2
      refine wp_post fun we hwe => ?_
      have hBE : Blk we R 30 #[.int .i64 0, .slice none 0 0] := by
        rw [hwe]
        have := (HBR.out.set 0 (.int .i64 0)).set 1 (.slice none 0 0)
        simpa using this
      have hSE : Same w we := by rw [hwe]; exact (HS1.out.setNew 0 _ leR).setNew 1 _ leR
      have hr0 : we.cell? ⟨R, 0, none⟩ = some (.int .i64 0) := hBE.cell 0
      have hr1 : we.cell? ⟨R, 1, none⟩ = some (.slice none 0 0) := hBE.cell 1
      clear hwe hBE
      refine bodyPost_ret (v := .tuple #[.agg #[.int .i64 0, .slice none 0 0], .int .i64 2]) (by simp [results, Try.results6, go_sem, hr0, hr1]) rfl ?_
      exact ⟨none, 0, rfl, NewT.nil hSE⟩
    · have h3 : v ≥ (N : Int) := by omega
      clear h1
      go_enter Try.func6, Try.ntmps6
      go_upto_region 1 with fail
      refine wp_world fun w1 hw1 => ?_
      have hs1 : Same w w1 := by rw [hw1]; exact ((Frm.refl _ _).alloc _).alloc _
      have hBB : Blk w1 (w.heap.size) 3 #[.int .i64 v] := by
        rw [hw1]
        have := ((Blk.new w 3 #[.int .i64 v]).alloc (.cells #[.int .i64 0, .slice none 0 0] 30))
        simpa using this
      have hBR : Blk w1 (w.heap.size + 1) 30 #[.int .i64 0, .slice none 0 0] := by
        rw [hw1]
        have := (Blk.new (w.alloc (.cells #[.int .i64 v] 3)) 30 #[.int .i64 0, .slice none 0 0])
        simpa using this
      clear hw1
      obtain ⟨R, hR⟩ : ∃ b, w.heap.size + 1 = b := ⟨_, rfl⟩
      rw [hR] at hBR ⊢
      have leR : w.heap.size ≤ R := by omega
      have neBR : w.heap.size ≠ R := by omega
      clear hR
      have cB0 : w1.cell? ⟨w.heap.size, 0, none⟩ = some (.int .i64 v) := hBB.cell 0
      have lB := hBB.lt
      have fB0 := hBB.free 0
      have HBB := Lib.hid hBB
      have cR0 : w1.cell? ⟨R, 0, none⟩ = some (.int .i64 0) := hBR.cell 0
      have cR1 : w1.cell? ⟨R, 1, none⟩ = some (.slice none 0 0) := hBR.cell 1
      have lR := hBR.lt
      have fR0 := hBR.free 0
      have fR1 := hBR.free 1
      have HBR := Lib.hid hBR
      have HS1 := Lib.hid hs1
      clear hs1 hBB hBR
      go_wp2_with (fail)
      refine (HCT.out w1).mono ?_
      rintro e w2 ⟨rfl, rfl⟩
      go_wp2
      refine wp_post fun we hwe => ?_
      have hBE : Blk we R 30 #[.int .i64 0, .slice none 0 0] := by
        rw [hwe]
        have := (HBR.out.set 0 (.int .i64 0)).set 1 (.slice none 0 0)
        simpa using this
      have hSE : Same w we := by rw [hwe]; exact (HS1.out.setNew 0 _ leR).setNew 1 _ leR
      have hr0 : we.cell? ⟨R, 0, none⟩ = some (.int .i64 0) := hBE.cell 0
      have hr1 : we.cell? ⟨R, 1, none⟩ = some (.slice none 0 0) := hBE.cell 1
      clear hwe hBE
      refine bodyPost_ret (v := .tuple #[.agg #[.int .i64 0, .slice none 0 0], .int .i64 2]) (by simp [results, Try.results6, go_sem, hr0, hr1]) rfl ?_
      exact ⟨none, 0, rfl, NewT.nil hSE⟩
  · obtain ⟨V, rfl⟩ : ∃ V : Nat, v = V := ⟨v.toNat, by omega⟩
    have hV : V < N := by omega
    have h2 : ¬ (V : Int) < 0 := by omega
    have h3 : ¬ (V : Int) ≥ N := by omega
    have he : varE N V = 0 := by unfold varE; rw [hc, if_neg (by simp), if_neg h1]
    unfold RetA
    rw [he, show ansN N 0 = N from rfl, show ansL (tab (N : Int).toNat (varF (V : Int).toNat)) 0 = tab N (varF V) from rfl]
    have HTB := Lib.hid (laid_tab (n := N) (g := colN V) (F := varF V) fun k _ j hj _ => colN_bit hj)
    have hen : ∀ (args : Array Value) (w : World), (callFunc 15 args).run Try.prog w = .ok (.enter 15 args) w := enters_of Try.func15 (by kernel_rfl) rfl
    have HEN := Lib.hid hen
    clear he hc h1 hen
    go_enter Try.func6, Try.ntmps6
    go_upto_region 1 with fail
    refine wp_world fun w1 hw1 => ?_
    have hs1 : Same w w1 := by rw [hw1]; exact ((Frm.refl _ _).alloc _).alloc _
    have hBB : Blk w1 (w.heap.size) 3 #[.int .i64 V] := by
      rw [hw1]
      have := ((Blk.new w 3 #[.int .i64 V]).alloc (.cells #[.int .i64 0, .slice none 0 0] 30))
      simpa using this
    have hBR : Blk w1 (w.heap.size + 1) 30 #[.int .i64 0, .slice none 0 0] := by
      rw [hw1]
      have := (Blk.new (w.alloc (.cells #[.int .i64 V] 3)) 30 #[.int .i64 0, .slice none 0 0])
      simpa using this
    clear hw1
    obtain ⟨R, hR⟩ : ∃ b, w.heap.size + 1 = b := ⟨_, rfl⟩
    rw [hR] at hBR ⊢
    have leR : w.heap.size ≤ R := by omega
    have neBR : w.heap.size ≠ R := by omega
    clear hR
    have cB0 : w1.cell? ⟨w.heap.size, 0, none⟩ = some (.int .i64 V) := hBB.cell 0
    have lB := hBB.lt
    have fB0 := hBB.free 0
    have HBB := Lib.hid hBB
    have cR0 : w1.cell? ⟨R, 0, none⟩ = some (.int .i64 0) := hBR.cell 0
    have cR1 : w1.cell? ⟨R, 1, none⟩ = some (.slice none 0 0) := hBR.cell 1
    have lR := hBR.lt
    have fR0 := hBR.free 0
    have fR1 := hBR.free 1
    have HBR := Lib.hid hBR
    have HS1 := Lib.hid hs1
    clear hs1 hBB hBR
    have htl : (Tells w1 N 15 #[.pointer (some ⟨w.heap.size, 0, none⟩)] (colN V)) := fun i hi => ⟨colN_lt V i, fun w' hs' => by
      refine (var1_any i V w.heap.size w' (by omega) (by have := nw_le hn; omega) ((hs'.cell (p := ⟨w.heap.size, 0, none⟩) lB id).trans cB0)).mono ?_
      rintro e w'' ⟨rfl, rfl⟩
      exact ⟨rfl, Frm.refl _ _⟩⟩
    have HTL := Lib.hid htl
    clear htl
    go_wp2_with (fail)
    refine (HCT.out w1).mono ?_
    rintro e w2 ⟨rfl, rfl⟩
    go_wp2_with (fail)
    refine (laid_any N 15 #[.pointer (some ⟨w.heap.size, 0, none⟩)] (colN V) w1 hn HEN.out HTL.out).mono ?_
    rintro e w3 ⟨Aq, Cq, rfl, hNT⟩
    rw [HTB.out] at hNT ⊢
    have hoq := hNT.1
    have hfq := hNT.2.1
    have hsq := hNT.2.2
    have hRq : ∀ a, Aq = some a → a.block ≠ R := fun a ha h => by
      have := hfq a.block ⟨a, ha, rfl⟩
      omega
    have HBRq := Lib.hid (HBR.out.frm hsq id)
    have HSq := Lib.hid (HS1.out.trans hsq (fun _ _ h => h))
    have hfq' : Fresh w.heap.size Aq := fun b hb => by have := hfq b hb; have := HS1.out.size; omega
    have HOQ := Lib.hid hoq
    have HFQ := Lib.hid hfq'
    have hcR0 : w3.cell? ⟨R, 0, none⟩ = some (.int .i64 0) := HBRq.out.cell 0
    have hcR1 : w3.cell? ⟨R, 1, none⟩ = some (.slice none 0 0) := HBRq.out.cell 1
    have hfR0 := HBRq.out.free 0
    have hfR1 := HBRq.out.free 1
    have hlR := HBRq.out.lt
    clear hNT hoq hfq hsq hfq'
    go_wp2
    refine wp_post fun we hwe => ?_
    have hBE : Blk we R 30 #[.int .i64 N, .slice Aq (tab N (varF V)).length Cq] := by
      rw [hwe]
      have := (HBRq.out.set 0 (.int .i64 N)).set 1 (.slice Aq (tab N (varF V)).length Cq)
      simpa using this
    have hSE : Same w we := by rw [hwe]; exact (HSq.out.setNew 0 _ leR).setNew 1 _ leR
    have hOE : OwnW we Aq (tab N (varF V)).length Cq (tab N (varF V)) := by
      rw [hwe]
      exact (Own.far (p := ⟨R, 0, none⟩) HOQ.out hRq _).far (p := ⟨R, 1, none⟩) hRq _
    have hr0 : we.cell? ⟨R, 0, none⟩ = some (.int .i64 N) := hBE.cell 0
    have hr1 : we.cell? ⟨R, 1, none⟩ = some (.slice Aq (tab N (varF V)).length Cq) := hBE.cell 1
    clear hwe hBE
    refine bodyPost_ret (v := .tuple #[.agg #[.int .i64 N, .slice Aq (tab N (varF V)).length Cq], .int .i64 0]) (by simp [results, Try.results6, go_sem, hr0, hr1]) rfl ?_
    exact ⟨Aq, Cq, rfl, hOE, HFQ.out, hSE⟩
end Go.Proofs.Ytjgndclfbcijmaa


/- Truth tables: Const and Not of the program. -/
namespace Go.Proofs.Ytjgndclfbcijmaa
open Go.RowKit Go.Tk

theorem vb_word {ws : List Nat} {k x j : Nat} (h : ws[k]? = some x) (hj : j < 64) : vb ws (64 * k + j) = x.testBit j := by
  unfold vb
  rw [show (64 * k + j) / 64 = k by omega, show (64 * k + j) % 64 = j by omega, List.getD_eq_getElem?_getD, h]
  rfl
/-- all bits turned -/
def notN (x : Nat) : Nat := 18446744073709551615 - x
theorem notN_lt (x : Nat) : notN x < 18446744073709551616 := by unfold notN; omega
theorem notN_bit {x j : Nat} (hx : x < 18446744073709551616) (hj : j < 64) : (notN x).testBit j = !x.testBit j := by
  have h := Nat.testBit_two_pow_sub_succ (x := x) (n := 64) hx j
  unfold notN
  rw [show 18446744073709551615 - x = 2 ^ 64 - (x + 1) by omega, h]
  simp [hj]
theorem xor_not {x : Nat} (hx : x < 18446744073709551616) : bits .xor .u64 IntKind.u64.max (x : Int) = (notN x : Nat) := by
  have h := u64_xor_nat 18446744073709551615 x (by omega) hx
  rw [show IntKind.u64.max = ((18446744073709551615 : Nat) : Int) by decide, h]
  congr 1
  apply Nat.eq_of_testBit_eq
  intro j
  rw [Nat.testBit_xor, show (18446744073709551615 : Nat) = 2 ^ 64 - 1 by decide, Nat.testBit_two_pow_sub_one]
  by_cases hj : j < 64
  · rw [notN_bit hx hj]
    simp [hj]
  · have h1 : (notN x).testBit j = false := Nat.testBit_lt_two_pow (Nat.lt_of_lt_of_le (notN_lt x) (Nat.pow_le_pow_right (show 0 < 2 by omega) (show 64 ≤ j by omega)))
    have h2 : x.testBit j = false := Nat.testBit_lt_two_pow (Nat.lt_of_lt_of_le hx (Nat.pow_le_pow_right (show 0 < 2 by omega) (show 64 ≤ j by omega)))
    rw [h1, h2]
    simp [hj]
/-- the error of tables -/
def fmE (b : Bool) : Int := if b then 0 else 5
def notF (ws : List Nat) : Nat → Bool := fun i => !vb ws i
theorem frm_one (N : Int) (A : Option Addr) (C : Nat) (ws : List Nat) : fm [⟨N, A, C, ws⟩] = frm N ws := by simp [fm, Tb.frm]
end Go.Proofs.Ytjgndclfbcijmaa


/- Truth tables: Binary of the program. -/
namespace Go.Proofs.Ytjgndclfbcijmaa
open Go.RowKit Go.Tk

/-- the parts that the bits of op choose -/
def bwL (op : Nat) (pL : Nat → Nat) : Nat → Nat
  | 0 => 0
  | m + 1 => if op.testBit m then bwL op pL m ||| pL m else bwL op pL m
theorem bwL_lt {op : Nat} {pL : Nat → Nat} (h : ∀ m, pL m < 18446744073709551616) : ∀ m, bwL op pL m < 18446744073709551616
  | 0 => by simp [bwL]
  | m + 1 => by
    rw [bwL]
    split
    · exact Nat.or_lt_two_pow (n := 64) (bwL_lt h m) (h m)
    · exact bwL_lt h m
def partN (x y : Nat) : Nat → Nat
  | 0 => notN x &&& notN y
  | 1 => notN x &&& y
  | 2 => x &&& notN y
  | 3 => x &&& y
  | _ => 0
theorem partN_lt (x y : Nat) (hx : x < 18446744073709551616) : ∀ m, partN x y m < 18446744073709551616
  | 0 => Nat.lt_of_le_of_lt Nat.and_le_left (notN_lt x)
  | 1 => Nat.lt_of_le_of_lt Nat.and_le_left (notN_lt x)
  | 2 => Nat.lt_of_le_of_lt Nat.and_le_left hx
  | 3 => Nat.lt_of_le_of_lt Nat.and_le_left hx
  | m + 4 => by show (0 : Nat) < _; omega
def binN (op x y : Nat) : Nat := bwL op (partN x y) 4
theorem binN_bit {op x y j : Nat} (hx : x < 18446744073709551616) (hy : y < 18446744073709551616) (hj : j < 64) : (binN op x y).testBit j = op.testBit ((if x.testBit j then 2 else 0) + (if y.testBit j then 1 else 0)) := by
  have h1 := notN_bit hx hj
  have h2 := notN_bit hy hj
  unfold binN
  simp only [bwL]
  cases ho0 : op.testBit 0 <;> cases ho1 : op.testBit 1 <;> cases ho2 : op.testBit 2 <;> cases ho3 : op.testBit 3 <;>
    cases hxj : x.testBit j <;> cases hyj : y.testBit j <;> simp only [partN, if_true, if_false, Bool.false_eq_true, Nat.testBit_or, Nat.testBit_and, h1, h2, hxj, hyj, Nat.zero_testBit, ho0, ho1, ho2, ho3, Bool.not_true, Bool.not_false, Bool.and_true, Bool.and_false, Bool.or_true, Bool.or_false, Nat.zero_add, Nat.add_zero, Nat.reduceAdd]
theorem u8_shift (op m : Nat) (hop : op < 256) : bits .and .u8 ((op : Int) / 2 ^ m) 1 = ((op / 2 ^ m % 2 : Nat) : Int) := by
  have h1 : op / 2 ^ m ≤ op := Nat.div_le_self _ _
  have h2 : ((op : Int) / 2 ^ m) = ((op / 2 ^ m : Nat) : Int) := by rw [pow_int]; exact (Int.natCast_ediv op (2 ^ m)).symm
  have h3 := u8_and_nat (op / 2 ^ m) 1 (by omega) (by omega)
  rw [nat_mask1] at h3
  rw [h2, show (1 : Int) = ((1 : Nat) : Int) from rfl, h3]
end Go.Proofs.Ytjgndclfbcijmaa


/- Truth tables: Binary of the program. -/
namespace Go.Proofs.Ytjgndclfbcijmaa
open Go.RowKit Go.Tk

def binE (op : Nat) (fr : Bool) : Int := if 15 < op then 1 else fmE fr
def binF (op : Nat) (wsa wsb : List Nat) : Nat → Bool := fun i => op.testBit ((if vb wsa i then 2 else 0) + (if vb wsb i then 1 else 0))
theorem fm_two {Na Nb : Int} {Aa Ab : Option Addr} {Ca Cb : Nat} {wsa wsb : List Nat} (h : fm [⟨Na, Aa, Ca, wsa⟩, ⟨Nb, Ab, Cb, wsb⟩] = true) : ∃ n : Nat, Na = n ∧ Nb = n ∧ FormN n wsa ∧ FormN n wsb := by
  simp [fm, Tb.frm] at h
  obtain ⟨n, rfl, h1⟩ := frm_true h.1
  have h2 := h.2.1
  rw [h.2.2] at h2
  exact ⟨n, rfl, h.2.2, h1, frm_nat.1 h2⟩
theorem getD_of {ws : List Nat} {k x : Nat} (h : ws[k]? = some x) : ws.getD k 0 = x := by rw [List.getD_eq_getElem?_getD, h]; rfl
end Go.Proofs.Ytjgndclfbcijmaa


/- Truth tables: half's closure. -/
namespace Go.Proofs.Ytjgndclfbcijmaa
open Go.RowKit Go.Tk

theorem and_clr {i k : Nat} (hi : i < 1024) (hp : 2 ^ k < 18446744073709551616) (j : Nat) : (i &&& (18446744073709551615 - 2 ^ k)).testBit j = if j = k then false else i.testBit j := by
  by_cases hj : j < 64
  · rw [Nat.testBit_and, not64_bit hp hj, Nat.testBit_two_pow]
    by_cases h : j = k
    · subst h; simp
    · rw [if_neg h]
      simp [show ¬ k = j by omega]
  · have h1 : i.testBit j = false := Nat.testBit_lt_two_pow (Nat.lt_of_lt_of_le hi (show 2 ^ 10 ≤ 2 ^ j from Nat.pow_le_pow_right (by omega) (by omega)))
    rw [Nat.testBit_and, h1]
    split <;> rfl
theorem or_set (i k : Nat) : wth i k false ||| 2 ^ k = wth i k true := wth_of fun j => by
  rw [Nat.testBit_or, wth_bit, Nat.testBit_two_pow]
  by_cases h : j = k
  · subst h; simp
  · rw [if_neg h, if_neg h]
    simp [show ¬ k = j by omega]
set_option maxHeartbeats 4000000 in
theorem half1_any (n i v Bv Bb Ba : Nat) (b : Bool) (A : Option Addr) (C : Nat) (ws : List Nat) (w : World) (hf : FormN n ws) (hi : i < nw n) (hv : v < n) (h : WL w A ws.length ws) (hb : Small ws)
    (hcv : w.cell? ⟨Bv, 0, none⟩ = some (.int .i64 v)) (hcb : w.cell? ⟨Bb, 0, none⟩ = some (.bool b)) (hca : w.cell? ⟨Ba, 1, none⟩ = some (.slice A ws.length C)) :
    Calls Try.prog 33 #[.int .i64 i, .pointer (some ⟨Bv, 0, none⟩), .pointer (some ⟨Bb, 0, none⟩), .pointer (some ⟨Ba, 0, none⟩)] w fun e w' => e = .returned (.int .u64 (halfN v b ws i : Nat)) ∧ Same w w' := by
  have hlBv : Bv < w.heap.size := World.block_lt_of_cell? w _ hcv
  have hlBb : Bb < w.heap.size := World.block_lt_of_cell? w _ hcb
  have hlBa : Ba < w.heap.size := World.block_lt_of_cell? w _ hca
  have hn := hf.n16
  have hnl := nw_le hn
  by_cases h6 : 6 ≤ v
  · have hil : wth i (v - 6) b < ws.length := by
      have h0 : nw n = 2 ^ (n - 6) := by
        unfold nw
        rw [if_neg (by omega)]
      rw [hf.len, h0]
      rw [h0] at hi
      exact wth_lt hi (by omega)
    have hpk2 : 2 ^ (v - 6) < 18446744073709551616 := Nat.lt_of_le_of_lt (Nat.pow_le_pow_right (show 0 < 2 by omega) (show v - 6 ≤ 10 by omega)) (by decide)
    cases b with
    | false =>
      obtain ⟨k, rfl⟩ : ∃ k, v = k + 6 := ⟨v - 6, by omega⟩
      rw [show k + 6 - 6 = k by omega] at hil hpk2
      obtain ⟨x, hx⟩ : ∃ x, ws[wth i k false]? = some x := ⟨_, List.getElem?_eq_getElem hil⟩
      have hxe : halfN (k + 6) false ws i = x := by
        unfold halfN
        rw [if_pos (by omega), show k + 6 - 6 = k by omega, getD_of hx]
      obtain ⟨b0, off, rfl, hbl, hc⟩ := h.at1 hx
      have hpk : 2 ^ k ≤ 2 ^ 9 := Nat.pow_le_pow_right (by omega) (by omega)
      have hand := i64_andNot_nat i (2 ^ k) (by omega) (by omega)
      have hor := i64_or_nat (i &&& (18446744073709551615 - 2 ^ k)) (2 ^ k) (Nat.lt_of_le_of_lt Nat.and_le_left (by omega)) (by omega)
      have hcl : i &&& (18446744073709551615 - 2 ^ k) = wth i k false := wth_of fun j => and_clr (by omega) hpk2 j
      have hst : wth i k false ||| 2 ^ k = wth i k true := or_set i k
      rw [hcl] at hand hor
      rw [hst] at hor
      have hwl : wth i k false < ws.length := hil
      have hsw : wrap64 ((2 : Int) ^ k) = ((2 ^ k : Nat) : Int) := by
        rw [pow_int]
        generalize 2 ^ k = p at hpk ⊢
        exact IntWalk.wrap64_in _ (by omega)
      have hsw2 : IntKind.i64.wrap ((2 : Int) ^ k) = ((2 ^ k : Nat) : Int) := by
        rw [pow_int]
        generalize 2 ^ k = p at hpk ⊢
        exact IntWalk.i64_in _ (by omega)
      rw [hxe]
      clear hxe hcl hst hpk2 hx
      generalize 2 ^ k = p at *
      generalize wth i k false = ix at *
      have hix0 : (0 : Int) ≤ ix := by omega
      have hix1 : (ix : Int) < ws.length := by omega
      have hcv' : w.cell? ⟨Bv, 0, none⟩ = some (.int .i64 ((k : Int) + 6)) := hcv
      have hk6 : (k : Int) + 6 ≥ 6 := by omega
      have hk7 : (k : Int) + 6 - 6 = k := by omega
      have hk8 : IntKind.i64.wrap ((k : Int) + 6 - 6) = k := by rw [IntWalk.i64_in _ (by omega)]; omega
      have hk9 : (0 : Int) ≤ k := by omega
      clear hcv
      go_enter Try.func33, Try.ntmps33
      go_wp2
      go_ret
      exact ⟨rfl, Frm.refl _ _⟩
    | true =>
      obtain ⟨k, rfl⟩ : ∃ k, v = k + 6 := ⟨v - 6, by omega⟩
      rw [show k + 6 - 6 = k by omega] at hil hpk2
      obtain ⟨x, hx⟩ : ∃ x, ws[wth i k true]? = some x := ⟨_, List.getElem?_eq_getElem hil⟩
      have hxe : halfN (k + 6) true ws i = x := by
        unfold halfN
        rw [if_pos (by omega), show k + 6 - 6 = k by omega, getD_of hx]
      obtain ⟨b0, off, rfl, hbl, hc⟩ := h.at1 hx
      have hpk : 2 ^ k ≤ 2 ^ 9 := Nat.pow_le_pow_right (by omega) (by omega)
      have hand := i64_andNot_nat i (2 ^ k) (by omega) (by omega)
      have hor := i64_or_nat (i &&& (18446744073709551615 - 2 ^ k)) (2 ^ k) (Nat.lt_of_le_of_lt Nat.and_le_left (by omega)) (by omega)
      have hcl : i &&& (18446744073709551615 - 2 ^ k) = wth i k false := wth_of fun j => and_clr (by omega) hpk2 j
      have hst : wth i k false ||| 2 ^ k = wth i k true := or_set i k
      rw [hcl] at hand hor
      rw [hst] at hor
      have hwl : wth i k true < ws.length := hil
      have hsw : wrap64 ((2 : Int) ^ k) = ((2 ^ k : Nat) : Int) := by
        rw [pow_int]
        generalize 2 ^ k = p at hpk ⊢
        exact IntWalk.wrap64_in _ (by omega)
      have hsw2 : IntKind.i64.wrap ((2 : Int) ^ k) = ((2 ^ k : Nat) : Int) := by
        rw [pow_int]
        generalize 2 ^ k = p at hpk ⊢
        exact IntWalk.i64_in _ (by omega)
      rw [hxe]
      clear hxe hcl hst hpk2 hx
      generalize 2 ^ k = p at *
      generalize wth i k true = ix at *
      have hix0 : (0 : Int) ≤ ix := by omega
      have hix1 : (ix : Int) < ws.length := by omega
      have hcv' : w.cell? ⟨Bv, 0, none⟩ = some (.int .i64 ((k : Int) + 6)) := hcv
      have hk6 : (k : Int) + 6 ≥ 6 := by omega
      have hk7 : (k : Int) + 6 - 6 = k := by omega
      have hk8 : IntKind.i64.wrap ((k : Int) + 6 - 6) = k := by rw [IntWalk.i64_in _ (by omega)]; omega
      have hk9 : (0 : Int) ≤ k := by omega
      clear hcv
      go_enter Try.func33, Try.ntmps33
      go_wp2
      go_ret
      exact ⟨rfl, Frm.refl _ _⟩
  · obtain ⟨x, hx⟩ : ∃ x, ws[i]? = some x := ⟨_, List.getElem?_eq_getElem (by rw [hf.len]; exact hi)⟩
    have hxe : halfN v b ws i = halfW v b x := by
      unfold halfN
      rw [if_neg h6, getD_of hx]
    obtain ⟨b0, off, rfl, hbl, hc⟩ := h.at1 hx
    have hxb := hb.at1 hx
    have hi0 : (0 : Int) ≤ i := by omega
    have hi1 : (i : Int) < ws.length := by rw [hf.len]; omega
    have hv6 : v < 6 := by omega
    have hcol : colN v 0 = bsum (fun j => j.testBit v) 64 := by unfold colN; rw [if_pos hv6]
    have hcc := fun w => column_any v 0 w (by omega) (by omega)
    have hcl : bsum (fun j => j.testBit v) 64 < 18446744073709551616 := bsum_lt _ 64
    have hs32 : 2 ^ v ≤ 2 ^ 5 := Nat.pow_le_pow_right (by omega) (by omega)
    rw [hxe]
    unfold halfW
    rw [hcol] at hcc
    generalize bsum (fun j => j.testBit v) 64 = c at hcc hcl ⊢
    have hsw : wrap64 ((2 : Int) ^ v) = ((2 ^ v : Nat) : Int) := by
      rw [pow_int]
      generalize 2 ^ v = p at hs32 ⊢
      exact IntWalk.wrap64_in _ (by omega)
    have hsw2 : IntKind.i64.wrap ((2 : Int) ^ v) = ((2 ^ v : Nat) : Int) := by
      rw [pow_int]
      generalize 2 ^ v = p at hs32 ⊢
      exact IntWalk.i64_in _ (by omega)
    have hs64 : 2 ^ v < 64 := Nat.lt_of_le_of_lt hs32 (by decide)
    have hmin : min (2 ^ v) 64 = 2 ^ v := Nat.min_eq_left (Nat.le_of_lt hs64)
    clear hs32
    generalize 2 ^ v = s at hsw hsw2 hs64 hmin ⊢
    have hnv : ¬ (v : Int) ≥ 6 := by omega
    have HCC := Lib.hid hcc
    clear hxe hx hcol hcc h6 hf hi
    cases b with
    | true =>
      rw [if_pos rfl]
      have ha := u64_and_nat x c hxb hcl
      have hy : x &&& c < 18446744073709551616 := Nat.lt_of_le_of_lt Nat.and_le_left hxb
      generalize x &&& c = y at ha hy ⊢
      have hzl : y / 2 ^ s < 18446744073709551616 := Nat.lt_of_le_of_lt (Nat.div_le_self _ _) hy
      have hd : (y : Int) / 2 ^ s = ((y / 2 ^ s : Nat) : Int) := by rw [pow_int]; exact (Int.natCast_ediv y (2 ^ s)).symm
      generalize y / 2 ^ s = z at hd hzl ⊢
      have ho := u64_or_nat y z hy hzl
      go_enter Try.func33, Try.ntmps33
      go_upto_region 6 with fail
      refine wp_quiet (by kernel_rfl) (by kernel_rfl) ?_
      repeat (any_goals (first | go_big_quiet_step ((go_at_call 16; exact quiet_call ((HCC.out _).mono fun e w' h => ⟨h.1, h.2 ▸ Frm.refl _ _⟩))) | quiet_step ((go_at_call 16; exact quiet_call ((HCC.out _).mono fun e w' h => ⟨h.1, h.2 ▸ Frm.refl _ _⟩)))))
      refine wpQuiet_nil ?_
      rintro wz ⟨q, hq⟩
      have hsz : Same w wz := by rw [hq]; exact more_same _ q
      have hc2 := (hsz.cell (World.block_lt_of_cell? w _ hc) id).trans hc
      have hcb2 := (hsz.cell (World.block_lt_of_cell? w _ hcb) id).trans hcb
      have hca2 := (hsz.cell (World.block_lt_of_cell? w _ hca) id).trans hca
      have HSZ := Lib.hid hsz
      clear hq hsz hc hcb hca hcv
      go_wp2
      go_ret
      exact ⟨rfl, HSZ.out⟩
    | false =>
      rw [if_neg (by decide)]
      have ha := u64_andNot_nat x c hxb hcl
      have hy : x &&& (18446744073709551615 - c) < 18446744073709551616 := Nat.lt_of_le_of_lt Nat.and_le_left hxb
      generalize x &&& (18446744073709551615 - c) = y at ha hy ⊢
      have hzl : y * 2 ^ s % 18446744073709551616 < 18446744073709551616 := Nat.mod_lt _ (by omega)
      have hd : IntKind.u64.wrap ((y : Int) * 2 ^ s) = ((y * 2 ^ s % 18446744073709551616 : Nat) : Int) := by
        rw [pow_int, IntKind.wrap_u64, ← Int.natCast_mul]
        exact (Int.natCast_emod _ _).symm
      generalize y * 2 ^ s % 18446744073709551616 = z at hd hzl ⊢
      have ho := u64_or_nat y z hy hzl
      go_enter Try.func33, Try.ntmps33
      go_upto_region 6 with fail
      refine wp_quiet (by kernel_rfl) (by kernel_rfl) ?_
      repeat (any_goals (first | go_big_quiet_step ((go_at_call 16; exact quiet_call ((HCC.out _).mono fun e w' h => ⟨h.1, h.2 ▸ Frm.refl _ _⟩))) | quiet_step ((go_at_call 16; exact quiet_call ((HCC.out _).mono fun e w' h => ⟨h.1, h.2 ▸ Frm.refl _ _⟩)))))
      refine wpQuiet_nil ?_
      rintro wz ⟨q, hq⟩
      have hsz : Same w wz := by rw [hq]; exact more_same _ q
      have hc2 := (hsz.cell (World.block_lt_of_cell? w _ hc) id).trans hc
      have hcb2 := (hsz.cell (World.block_lt_of_cell? w _ hcb) id).trans hcb
      have hca2 := (hsz.cell (World.block_lt_of_cell? w _ hca) id).trans hca
      have HSZ := Lib.hid hsz
      clear hq hsz hc hcb hca hcv
      go_wp2
      go_ret
      exact ⟨rfl, HSZ.out⟩
end Go.Proofs.Ytjgndclfbcijmaa


/- Truth tables: half of the program; the error of a table and a variable. -/
namespace Go.Proofs.Ytjgndclfbcijmaa
open Go.RowKit Go.Tk

/-- the cofactor's values -/
def hfF (v : Nat) (b : Bool) (ws : List Nat) : Nat → Bool := fun i => vb ws (wth i v b)
theorem Small.getD {ws : List Nat} (h : Small ws) (i : Nat) : ws.getD i 0 < 18446744073709551616 := by
  rw [List.getD_eq_getElem?_getD]
  cases hx : ws[i]? with
  | none => simp
  | some x => exact h.at1 hx
theorem halfW_lt {v x : Nat} {b : Bool} (hx : x < 18446744073709551616) : halfW v b x < 18446744073709551616 := by
  unfold halfW
  have h1 : x &&& bsum (fun j => j.testBit v) 64 < 2 ^ 64 := Nat.lt_of_le_of_lt Nat.and_le_left hx
  have h2 : x &&& (18446744073709551615 - bsum (fun j => j.testBit v) 64) < 2 ^ 64 := Nat.lt_of_le_of_lt Nat.and_le_left hx
  split
  · exact Nat.or_lt_two_pow (n := 64) h1 (Nat.lt_of_le_of_lt (Nat.div_le_self _ _) h1)
  · exact Nat.or_lt_two_pow (n := 64) h2 (Nat.mod_lt _ (by decide))
theorem halfN_lt {v i : Nat} {b : Bool} {ws : List Nat} (h : Small ws) : halfN v b ws i < 18446744073709551616 := by
  unfold halfN
  split
  · exact h.getD _
  · exact halfW_lt (h.getD _)
theorem halfN_bit {n v k j : Nat} {b : Bool} {ws : List Nat} (hf : FormN n ws) (hk : k < nw n) (hv : v < n) (hj : j < 64) : (halfN v b ws k).testBit j = hfF v b ws (64 * k + j) := by
  unfold halfN hfF
  by_cases h6 : 6 ≤ v
  · rw [if_pos h6, wth_high b hj h6]
    have h0 : nw n = 2 ^ (n - 6) := by unfold nw; rw [if_neg (by omega)]
    have hil : wth k (v - 6) b < ws.length := by
      rw [hf.len, h0]
      rw [h0] at hk
      exact wth_lt hk (by omega)
    rw [getD_of (List.getElem?_eq_getElem hil), vb_word (List.getElem?_eq_getElem hil) hj]
  · have hkl : k < ws.length := by rw [hf.len]; exact hk
    rw [if_neg h6, wth_low b hj (by omega), getD_of (List.getElem?_eq_getElem hkl), halfW_bit b (by omega) hj, vb_word (List.getElem?_eq_getElem hkl) (wth_lt (n := 6) hj (by omega))]
set_option maxHeartbeats 4000000 in
theorem half_any (n v : Nat) (b : Bool) (Aa : Option Addr) (Ca : Nat) (wsa : List Nat) (w : World) (h : TbOk w ⟨n, Aa, Ca, wsa⟩) (hf : FormN n wsa) (hv : v < n) :
    Calls Try.prog 31 #[.agg #[.int .i64 n, .slice Aa wsa.length Ca], .int .i64 v, .bool b] w (RetT w n (tab n (hfF v b wsa))) := by
  have hmf : ∀ (fn : Fn) (first cap : Array Value) (w : World), (Instr.makeFunc fn first cap).run Try.prog w = .ok (.func fn first cap) w := fun _ _ _ _ => rfl
  have H := Lib.hid h
  have hn := hf.n16
  have HTB := Lib.hid (laid_tab (n := n) (g := halfN v b wsa) (F := hfF v b wsa) fun k hk j hj _ => halfN_bit hf hk hv hj)
  have HF := Lib.hid hf
  have HV := Lib.hid hv
  have HSM := Lib.hid h.small
  clear h hf hv
  have hen : ∀ (args : Array Value) (w : World), (callFunc 33 args).run Try.prog w = .ok (.enter 33 args) w := enters_of Try.func33 (by kernel_rfl) rfl
  have HEN := Lib.hid hen
  clear hen
  go_enter Try.func31, Try.ntmps31
  go_upto_region 1 with fail
  refine wp_world fun w1 hw1 => ?_
  have hs1 : Same w w1 := by rw [hw1]; exact ((((Frm.refl _ _).alloc _).alloc _).alloc _).alloc _
  have hBXa : Blk w1 (w.heap.size) 30 #[.int .i64 n, .slice Aa wsa.length Ca] := by
    rw [hw1]
    have := ((((Blk.new w 30 #[.int .i64 n, .slice Aa wsa.length Ca]).alloc (.cells #[.int .i64 v] 3)).alloc (.cells #[.bool b] 4)).alloc (.cells #[.int .i64 0, .slice none 0 0] 30))
    simpa using this
  have hBV : Blk w1 (w.heap.size + 1) 3 #[.int .i64 v] := by
    rw [hw1]
    have := (((Blk.new (w.alloc (.cells #[.int .i64 n, .slice Aa wsa.length Ca] 30)) 3 #[.int .i64 v]).alloc (.cells #[.bool b] 4)).alloc (.cells #[.int .i64 0, .slice none 0 0] 30))
    simpa using this
  have hBB : Blk w1 (w.heap.size + 1 + 1) 4 #[.bool b] := by
    rw [hw1]
    have := ((Blk.new ((w.alloc (.cells #[.int .i64 n, .slice Aa wsa.length Ca] 30)).alloc (.cells #[.int .i64 v] 3)) 4 #[.bool b]).alloc (.cells #[.int .i64 0, .slice none 0 0] 30))
    simpa using this
  have hBR : Blk w1 (w.heap.size + 1 + 1 + 1) 30 #[.int .i64 0, .slice none 0 0] := by
    rw [hw1]
    have := (Blk.new (((w.alloc (.cells #[.int .i64 n, .slice Aa wsa.length Ca] 30)).alloc (.cells #[.int .i64 v] 3)).alloc (.cells #[.bool b] 4)) 30 #[.int .i64 0, .slice none 0 0])
    simpa using this
  clear hw1
  obtain ⟨R, hR⟩ : ∃ b, w.heap.size + 1 + 1 + 1 = b := ⟨_, rfl⟩
  rw [hR] at hBR ⊢
  obtain ⟨B, hB⟩ : ∃ b, w.heap.size + 1 + 1 = b := ⟨_, rfl⟩
  rw [hB] at hBB ⊢
  obtain ⟨V, hV⟩ : ∃ b, w.heap.size + 1 = b := ⟨_, rfl⟩
  rw [hV] at hBV ⊢
  have leV : w.heap.size ≤ V := by omega
  have leB : w.heap.size ≤ B := by omega
  have leR : w.heap.size ≤ R := by omega
  have neXaV : w.heap.size ≠ V := by omega
  have neXaB : w.heap.size ≠ B := by omega
  have neXaR : w.heap.size ≠ R := by omega
  have neVB : V ≠ B := by omega
  have neVR : V ≠ R := by omega
  have neBR : B ≠ R := by omega
  clear hV hB hR
  have cXa0 : w1.cell? ⟨w.heap.size, 0, none⟩ = some (.int .i64 n) := hBXa.cell 0
  have cXa1 : w1.cell? ⟨w.heap.size, 1, none⟩ = some (.slice Aa wsa.length Ca) := hBXa.cell 1
  have lXa := hBXa.lt
  have fXa0 := hBXa.free 0
  have fXa1 := hBXa.free 1
  have HBXa := Lib.hid hBXa
  have cV0 : w1.cell? ⟨V, 0, none⟩ = some (.int .i64 v) := hBV.cell 0
  have lV := hBV.lt
  have fV0 := hBV.free 0
  have HBV := Lib.hid hBV
  have cB0 : w1.cell? ⟨B, 0, none⟩ = some (.bool b) := hBB.cell 0
  have lB := hBB.lt
  have fB0 := hBB.free 0
  have HBB := Lib.hid hBB
  have cR0 : w1.cell? ⟨R, 0, none⟩ = some (.int .i64 0) := hBR.cell 0
  have cR1 : w1.cell? ⟨R, 1, none⟩ = some (.slice none 0 0) := hBR.cell 1
  have lR := hBR.lt
  have fR0 := hBR.free 0
  have fR1 := hBR.free 1
  have HBR := Lib.hid hBR
  have HS1 := Lib.hid hs1
  clear hs1 hBXa hBV hBB hBR
  have htl : Tells w1 n 33 #[.pointer (some ⟨V, 0, none⟩), .pointer (some ⟨B, 0, none⟩), .pointer (some ⟨w.heap.size, 0, none⟩)] (halfN v b wsa) := fun i hi => ⟨halfN_lt HSM.out, fun w' hs' => by
    refine (half1_any n i v V B w.heap.size b Aa Ca wsa w' HF.out hi HV.out (Sl.same (Sl.same H.out.wl HS1.out) hs') HSM.out ((hs'.cell (p := ⟨V, 0, none⟩) lV id).trans cV0) ((hs'.cell (p := ⟨B, 0, none⟩) lB id).trans cB0) ((hs'.cell (p := ⟨w.heap.size, 1, none⟩) lXa id).trans cXa1)).mono ?_
    exact fun e w'' h => h⟩
  have HTL := Lib.hid htl
  clear htl
  go_wp2_with (fail)
  refine (laid_any n 33 #[.pointer (some ⟨V, 0, none⟩), .pointer (some ⟨B, 0, none⟩), .pointer (some ⟨w.heap.size, 0, none⟩)] (halfN v b wsa) w1 hn HEN.out HTL.out).mono ?_
  rintro e w3 ⟨Aq, Cq, rfl, hNT⟩
  rw [HTB.out] at hNT ⊢
  have hoq := hNT.1
  have hfq := hNT.2.1
  have hsq := hNT.2.2
  have hRq : ∀ a, Aq = some a → a.block ≠ R := fun a ha h => by
    have := hfq a.block ⟨a, ha, rfl⟩
    omega
  have HBRq := Lib.hid (HBR.out.frm hsq id)
  have HSq := Lib.hid (HS1.out.trans hsq (fun _ _ h => h))
  have hfq' : Fresh w.heap.size Aq := fun b hb => by have := hfq b hb; have := HS1.out.size; omega
  have HOQ := Lib.hid hoq
  have HFQ := Lib.hid hfq'
  have hcR0 : w3.cell? ⟨R, 0, none⟩ = some (.int .i64 0) := HBRq.out.cell 0
  have hcR1 : w3.cell? ⟨R, 1, none⟩ = some (.slice none 0 0) := HBRq.out.cell 1
  have hfR0 := HBRq.out.free 0
  have hfR1 := HBRq.out.free 1
  have hlR := HBRq.out.lt
  clear hNT hoq hfq hsq hfq'
  go_wp2
  refine wp_post fun we hwe => ?_
  have hBE : Blk we R 30 #[.int .i64 n, .slice Aq (tab n (hfF v b wsa)).length Cq] := by
    rw [hwe]
    have := (HBRq.out.set 0 (.int .i64 n)).set 1 (.slice Aq (tab n (hfF v b wsa)).length Cq)
    simpa using this
  have hSE : Same w we := by rw [hwe]; exact (HSq.out.setNew 0 _ leR).setNew 1 _ leR
  have hOE : OwnW we Aq (tab n (hfF v b wsa)).length Cq (tab n (hfF v b wsa)) := by
    rw [hwe]
    exact (Own.far (p := ⟨R, 0, none⟩) HOQ.out hRq _).far (p := ⟨R, 1, none⟩) hRq _
  have hr0 : we.cell? ⟨R, 0, none⟩ = some (.int .i64 n) := hBE.cell 0
  have hr1 : we.cell? ⟨R, 1, none⟩ = some (.slice Aq (tab n (hfF v b wsa)).length Cq) := hBE.cell 1
  clear hwe hBE
  refine bodyPost_ret (v := .agg #[.int .i64 n, .slice Aq (tab n (hfF v b wsa)).length Cq]) (by simp [results, Try.results31, go_sem, hr0, hr1]) rfl ?_
  exact ⟨Aq, Cq, rfl, hOE, HFQ.out, hSE⟩

/-- the error of a table and a variable -/
def ofE (N v : Int) (ws : List Nat) : Int := if frm N ws then (if v < 0 ∨ N ≤ v then 2 else 0) else 5
set_option maxHeartbeats 2000000 in
theorem of_any (Na : Int) (Aa : Option Addr) (Ca : Nat) (wsa : List Nat) (v : Int) (w : World) (h : TbOk w ⟨Na, Aa, Ca, wsa⟩) : Calls Try.prog 32 #[.agg #[.int .i64 Na, .slice Aa wsa.length Ca], .int .i64 v] w fun e w' => e = .returned (.int .i64 (ofE Na v wsa)) ∧ Same w w' := by
  have H := Lib.hid h
  clear h
  unfold ofE
  cases hfr : frm Na wsa with
  | false =>
    have HFM := Lib.hid ((frm_one Na Aa Ca wsa).trans hfr)
    clear hfr
    rw [if_neg (by decide)]
    go_enter Try.func32, Try.ntmps32
    go_upto_region 1 with fail
    refine wp_world fun w1 hw1 => ?_
    have hs1 : Same w w1 := by rw [hw1]; exact (Frm.refl _ _).alloc _
    have hBXa : Blk w1 (w.heap.size) 30 #[.int .i64 Na, .slice Aa wsa.length Ca] := by
      rw [hw1]
      have := (Blk.new w 30 #[.int .i64 Na, .slice Aa wsa.length Ca])
      simpa using this
    clear hw1
    have cXa0 : w1.cell? ⟨w.heap.size, 0, none⟩ = some (.int .i64 Na) := hBXa.cell 0
    have cXa1 : w1.cell? ⟨w.heap.size, 1, none⟩ = some (.slice Aa wsa.length Ca) := hBXa.cell 1
    have lXa := hBXa.lt
    have fXa0 := hBXa.free 0
    have fXa1 := hBXa.free 1
    have HBXa := Lib.hid hBXa
    have HS1 := Lib.hid hs1
    clear hs1 hBXa
    have HOKa := Lib.hid (H.out.same HS1.out)
    go_wp2_with (fail)
    refine call_world fun w2 hw2 => ?_
    have hs2 : Same w1 w2 := by rw [hw2]; exact (Frm.refl _ _).alloc _
    have hBL : Blk w2 w1.heap.size 30 #[.int .i64 Na, .slice Aa wsa.length Ca] := by rw [hw2]; exact Blk.new _ _ _
    have htbs : Tbs w2 w1.heap.size [⟨Na, Aa, Ca, wsa⟩] := by
      intro i t hi
      match i, hi with
      | 0, hi =>
        simp only [List.getElem?_cons_zero, Option.some.injEq] at hi
        subst hi
        exact ⟨hBL.lt, hBL.cell 0, hBL.cell 1⟩
      | i + 1, hi => simp at hi
    have hfc := form_any w1.heap.size 1 1 [⟨Na, Aa, Ca, wsa⟩] w2 rfl (by decide) htbs (fun t ht => by
      simp only [List.mem_cons, List.not_mem_nil, or_false] at ht
      rcases ht with rfl
      · exact (HOKa.out).same hs2)
    rw [HFM.out] at hfc
    refine hfc.mono ?_
    clear hfc htbs hBL hw2
    rintro e w3 ⟨rfl, hs3⟩
    have hs13 : Same w1 w3 := hs2.trans hs3 (fun _ _ h => h)
    clear hs2 hs3
    replace HBXa := Lib.hid (HBXa.out.frm hs13 id)
    replace cXa0 : w3.cell? ⟨w.heap.size, 0, none⟩ = some (.int .i64 Na) := HBXa.out.cell 0
    replace cXa1 : w3.cell? ⟨w.heap.size, 1, none⟩ = some (.slice Aa wsa.length Ca) := HBXa.out.cell 1
    replace lXa := HBXa.out.lt
    replace fXa0 := HBXa.out.free 0
    replace fXa1 := HBXa.out.free 1
    replace HS1 := Lib.hid (HS1.out.trans hs13 (fun _ _ h => h))
    clear hs13
    go_wp2
    go_ret
    exact ⟨rfl, HS1.out⟩
  | true =>
    have HFM := Lib.hid ((frm_one Na Aa Ca wsa).trans hfr)
    clear hfr
    rw [if_pos rfl]
    by_cases h1 : v < 0 ∨ Na ≤ v
    · rw [if_pos h1]
      by_cases h2 : v < 0
      · clear h1
        go_enter Try.func32, Try.ntmps32
        go_upto_region 1 with fail
        refine wp_world fun w1 hw1 => ?_
        have hs1 : Same w w1 := by rw [hw1]; exact (Frm.refl _ _).alloc _
        have hBXa : Blk w1 (w.heap.size) 30 #[.int .i64 Na, .slice Aa wsa.length Ca] := by
          rw [hw1]
          have := (Blk.new w 30 #[.int .i64 Na, .slice Aa wsa.length Ca])
          simpa using this
        clear hw1
        have cXa0 : w1.cell? ⟨w.heap.size, 0, none⟩ = some (.int .i64 Na) := hBXa.cell 0
        have cXa1 : w1.cell? ⟨w.heap.size, 1, none⟩ = some (.slice Aa wsa.length Ca) := hBXa.cell 1
        have lXa := hBXa.lt
        have fXa0 := hBXa.free 0
        have fXa1 := hBXa.free 1
        have HBXa := Lib.hid hBXa
        have HS1 := Lib.hid hs1
        clear hs1 hBXa
        have HOKa := Lib.hid (H.out.same HS1.out)
        go_wp2_with (fail)
        refine call_world fun w2 hw2 => ?_
        have hs2 : Same w1 w2 := by rw [hw2]; exact (Frm.refl _ _).alloc _
        have hBL : Blk w2 w1.heap.size 30 #[.int .i64 Na, .slice Aa wsa.length Ca] := by rw [hw2]; exact Blk.new _ _ _
        have htbs : Tbs w2 w1.heap.size [⟨Na, Aa, Ca, wsa⟩] := by
          intro i t hi
          match i, hi with
          | 0, hi =>
            simp only [List.getElem?_cons_zero, Option.some.injEq] at hi
            subst hi
            exact ⟨hBL.lt, hBL.cell 0, hBL.cell 1⟩
          | i + 1, hi => simp at hi
        have hfc := form_any w1.heap.size 1 1 [⟨Na, Aa, Ca, wsa⟩] w2 rfl (by decide) htbs (fun t ht => by
          simp only [List.mem_cons, List.not_mem_nil, or_false] at ht
          rcases ht with rfl
          · exact (HOKa.out).same hs2)
        rw [HFM.out] at hfc
        refine hfc.mono ?_
        clear hfc htbs hBL hw2
        rintro e w3 ⟨rfl, hs3⟩
        have hs13 : Same w1 w3 := hs2.trans hs3 (fun _ _ h => h)
        clear hs2 hs3
        replace HBXa := Lib.hid (HBXa.out.frm hs13 id)
        replace cXa0 : w3.cell? ⟨w.heap.size, 0, none⟩ = some (.int .i64 Na) := HBXa.out.cell 0
        replace cXa1 : w3.cell? ⟨w.heap.size, 1, none⟩ = some (.slice Aa wsa.length Ca) := HBXa.out.cell 1
        replace lXa := HBXa.out.lt
        replace fXa0 := HBXa.out.free 0
        replace fXa1 := HBXa.out.free 1
        replace HS1 := Lib.hid (HS1.out.trans hs13 (fun _ _ h => h))
        clear hs13
        go_wp2
        go_ret
        exact ⟨rfl, HS1.out⟩
      · have h3 : v ≥ Na := by omega
        clear h1
        go_enter Try.func32, Try.ntmps32
        go_upto_region 1 with fail
        refine wp_world fun w1 hw1 => ?_
        have hs1 : Same w w1 := by rw [hw1]; exact (Frm.refl _ _).alloc _
        have hBXa : Blk w1 (w.heap.size) 30 #[.int .i64 Na, .slice Aa wsa.length Ca] := by
          rw [hw1]
          have := (Blk.new w 30 #[.int .i64 Na, .slice Aa wsa.length Ca])
          simpa using this
        clear hw1
        have cXa0 : w1.cell? ⟨w.heap.size, 0, none⟩ = some (.int .i64 Na) := hBXa.cell 0
        have cXa1 : w1.cell? ⟨w.heap.size, 1, none⟩ = some (.slice Aa wsa.length Ca) := hBXa.cell 1
        have lXa := hBXa.lt
        have fXa0 := hBXa.free 0
        have fXa1 := hBXa.free 1
        have HBXa := Lib.hid hBXa
        have HS1 := Lib.hid hs1
        clear hs1 hBXa
        have HOKa := Lib.hid (H.out.same HS1.out)
        go_wp2_with (fail)
        refine call_world fun w2 hw2 => ?_
        have hs2 : Same w1 w2 := by rw [hw2]; exact (Frm.refl _ _).alloc _
        have hBL : Blk w2 w1.heap.size 30 #[.int .i64 Na, .slice Aa wsa.length Ca] := by rw [hw2]; exact Blk.new _ _ _
        have htbs : Tbs w2 w1.heap.size [⟨Na, Aa, Ca, wsa⟩] := by
          intro i t hi
          match i, hi with
          | 0, hi =>
            simp only [List.getElem?_cons_zero, Option.some.injEq] at hi
            subst hi
            exact ⟨hBL.lt, hBL.cell 0, hBL.cell 1⟩
          | i + 1, hi => simp at hi
        have hfc := form_any w1.heap.size 1 1 [⟨Na, Aa, Ca, wsa⟩] w2 rfl (by decide) htbs (fun t ht => by
          simp only [List.mem_cons, List.not_mem_nil, or_false] at ht
          rcases ht with rfl
          · exact (HOKa.out).same hs2)
        rw [HFM.out] at hfc
        refine hfc.mono ?_
        clear hfc htbs hBL hw2
        rintro e w3 ⟨rfl, hs3⟩
        have hs13 : Same w1 w3 := hs2.trans hs3 (fun _ _ h => h)
        clear hs2 hs3
        replace HBXa := Lib.hid (HBXa.out.frm hs13 id)
        replace cXa0 : w3.cell? ⟨w.heap.size, 0, none⟩ = some (.int .i64 Na) := HBXa.out.cell 0
        replace cXa1 : w3.cell? ⟨w.heap.size, 1, none⟩ = some (.slice Aa wsa.length Ca) := HBXa.out.cell 1
        replace lXa := HBXa.out.lt
        replace fXa0 := HBXa.out.free 0
        replace fXa1 := HBXa.out.free 1
        replace HS1 := Lib.hid (HS1.out.trans hs13 (fun _ _ h => h))
        clear hs13
        go_wp2
        go_ret
        exact ⟨rfl, HS1.out⟩
    · rw [if_neg h1]
      have h2 : ¬ v < 0 := by omega
      have h3 : ¬ v ≥ Na := by omega
      clear h1
      go_enter Try.func32, Try.ntmps32
      go_upto_region 1 with fail
      refine wp_world fun w1 hw1 => ?_
      have hs1 : Same w w1 := by rw [hw1]; exact (Frm.refl _ _).alloc _
      have hBXa : Blk w1 (w.heap.size) 30 #[.int .i64 Na, .slice Aa wsa.length Ca] := by
        rw [hw1]
        have := (Blk.new w 30 #[.int .i64 Na, .slice Aa wsa.length Ca])
        simpa using this
      clear hw1
      have cXa0 : w1.cell? ⟨w.heap.size, 0, none⟩ = some (.int .i64 Na) := hBXa.cell 0
      have cXa1 : w1.cell? ⟨w.heap.size, 1, none⟩ = some (.slice Aa wsa.length Ca) := hBXa.cell 1
      have lXa := hBXa.lt
      have fXa0 := hBXa.free 0
      have fXa1 := hBXa.free 1
      have HBXa := Lib.hid hBXa
      have HS1 := Lib.hid hs1
      clear hs1 hBXa
      have HOKa := Lib.hid (H.out.same HS1.out)
      go_wp2_with (fail)
      refine call_world fun w2 hw2 => ?_
      have hs2 : Same w1 w2 := by rw [hw2]; exact (Frm.refl _ _).alloc _
      have hBL : Blk w2 w1.heap.size 30 #[.int .i64 Na, .slice Aa wsa.length Ca] := by rw [hw2]; exact Blk.new _ _ _
      have htbs : Tbs w2 w1.heap.size [⟨Na, Aa, Ca, wsa⟩] := by
        intro i t hi
        match i, hi with
        | 0, hi =>
          simp only [List.getElem?_cons_zero, Option.some.injEq] at hi
          subst hi
          exact ⟨hBL.lt, hBL.cell 0, hBL.cell 1⟩
        | i + 1, hi => simp at hi
      have hfc := form_any w1.heap.size 1 1 [⟨Na, Aa, Ca, wsa⟩] w2 rfl (by decide) htbs (fun t ht => by
        simp only [List.mem_cons, List.not_mem_nil, or_false] at ht
        rcases ht with rfl
        · exact (HOKa.out).same hs2)
      rw [HFM.out] at hfc
      refine hfc.mono ?_
      clear hfc htbs hBL hw2
      rintro e w3 ⟨rfl, hs3⟩
      have hs13 : Same w1 w3 := hs2.trans hs3 (fun _ _ h => h)
      clear hs2 hs3
      replace HBXa := Lib.hid (HBXa.out.frm hs13 id)
      replace cXa0 : w3.cell? ⟨w.heap.size, 0, none⟩ = some (.int .i64 Na) := HBXa.out.cell 0
      replace cXa1 : w3.cell? ⟨w.heap.size, 1, none⟩ = some (.slice Aa wsa.length Ca) := HBXa.out.cell 1
      replace lXa := HBXa.out.lt
      replace fXa0 := HBXa.out.free 0
      replace fXa1 := HBXa.out.free 1
      replace HS1 := Lib.hid (HS1.out.trans hs13 (fun _ _ h => h))
      clear hs13
      go_wp2
      go_ret
      exact ⟨rfl, HS1.out⟩
end Go.Proofs.Ytjgndclfbcijmaa


/- Truth tables: Cofactor and Exists of the program. -/
namespace Go.Proofs.Ytjgndclfbcijmaa
open Go.RowKit Go.Tk

theorem ofE_ok {N v : Int} {ws : List Nat} (h : ofE N v ws = 0) : ∃ n V : Nat, N = n ∧ v = V ∧ FormN n ws ∧ V < n := by
  unfold ofE at h
  cases hf : frm N ws with
  | false => rw [hf, if_neg (by decide)] at h; cases h
  | true =>
    rw [hf, if_pos rfl] at h
    obtain ⟨n, rfl, hn⟩ := frm_true hf
    split at h
    · cases h
    · rename_i h1
      exact ⟨n, v.toNat, rfl, by omega, hn, by omega⟩
theorem fm_tabs {n : Nat} {A0 A1 : Option Addr} {C0 C1 : Nat} {F G : Nat → Bool} (h : n ≤ 16) : fm [⟨n, A0, C0, tab n F⟩, ⟨n, A1, C1, tab n G⟩] = true := by
  have h1 : frm n (tab n F) = true := frm_nat.2 (tab_form h)
  have h2 : frm n (tab n G) = true := frm_nat.2 (tab_form h)
  simp [fm, Tb.frm, h1, h2]
/-- some value of v -/
def exF (v : Nat) (ws : List Nat) : Nat → Bool := fun i => hfF v false ws i || hfF v true ws i
set_option maxRecDepth 100000 in
set_option maxHeartbeats 4000000 in
theorem Cofactor_any (Na : Int) (Aa : Option Addr) (Ca : Nat) (wsa : List Nat) (v : Int) (b : Bool) (w : World) (h : TbOk w ⟨Na, Aa, Ca, wsa⟩) : Calls Try.prog 28 #[.agg #[.int .i64 Na, .slice Aa wsa.length Ca], .int .i64 v, .bool b] w (RetA w Na (tab Na.toNat (hfF v.toNat b wsa)) (ofE Na v wsa)) := by
  have H := Lib.hid h
  clear h
  have hof := fun (w : World) (h : TbOk w ⟨Na, Aa, Ca, wsa⟩) => of_any Na Aa Ca wsa v w h
  obtain ⟨c, hc⟩ : ∃ c, ofE Na v wsa = c := ⟨_, rfl⟩
  rw [hc] at hof ⊢
  have HOF := Lib.hid hof
  clear hof
  by_cases h0 : ¬ c = 0
  · have h0' : (c != 0) = true := by simpa using h0
    unfold RetA
    rw [show ansN Na c = 0 by unfold ansN; rw [if_neg h0], show ansL (tab Na.toNat (hfF v.toNat b wsa)) c = [] by unfold ansL; rw [if_neg h0]]
    clear hc h0
    go_enter Try.func28, Try.ntmps28
    go_upto_region 1 with fail
    refine wp_world fun w1 hw1 => ?_
    have hs1 : Same w w1 := by rw [hw1]; exact ((Frm.refl _ _).alloc _).alloc _
    have hBXa : Blk w1 (w.heap.size) 30 #[.int .i64 Na, .slice Aa wsa.length Ca] := by
      rw [hw1]
      have := ((Blk.new w 30 #[.int .i64 Na, .slice Aa wsa.length Ca]).alloc (.cells #[.int .i64 0, .slice none 0 0] 30))
      simpa using this
    have hBR : Blk w1 (w.heap.size + 1) 30 #[.int .i64 0, .slice none 0 0] := by
      rw [hw1]
      have := (Blk.new (w.alloc (.cells #[.int .i64 Na, .slice Aa wsa.length Ca] 30)) 30 #[.int .i64 0, .slice none 0 0])
      simpa using this
    clear hw1
    obtain ⟨R, hR⟩ : ∃ b, w.heap.size + 1 = b := ⟨_, rfl⟩
    rw [hR] at hBR ⊢
    have leR : w.heap.size ≤ R := by omega
    have neXaR : w.heap.size ≠ R := by omega
    clear hR
    have cXa0 : w1.cell? ⟨w.heap.size, 0, none⟩ = some (.int .i64 Na) := hBXa.cell 0
    have cXa1 : w1.cell? ⟨w.heap.size, 1, none⟩ = some (.slice Aa wsa.length Ca) := hBXa.cell 1
    have lXa := hBXa.lt
    have fXa0 := hBXa.free 0
    have fXa1 := hBXa.free 1
    have HBXa := Lib.hid hBXa
    have cR0 : w1.cell? ⟨R, 0, none⟩ = some (.int .i64 0) := hBR.cell 0
    have cR1 : w1.cell? ⟨R, 1, none⟩ = some (.slice none 0 0) := hBR.cell 1
    have lR := hBR.lt
    have fR0 := hBR.free 0
    have fR1 := hBR.free 1
    have HBR := Lib.hid hBR
    have HS1 := Lib.hid hs1
    clear hs1 hBXa hBR
    go_wp2_with (fail)
    refine (HOF.out w1 (H.out.same HS1.out)).mono ?_
    rintro e w3 ⟨rfl, hs13⟩
    replace HBXa := Lib.hid (HBXa.out.frm hs13 id)
    replace cXa0 : w3.cell? ⟨w.heap.size, 0, none⟩ = some (.int .i64 Na) := HBXa.out.cell 0
    replace cXa1 : w3.cell? ⟨w.heap.size, 1, none⟩ = some (.slice Aa wsa.length Ca) := HBXa.out.cell 1
    replace lXa := HBXa.out.lt
    replace fXa0 := HBXa.out.free 0
    replace fXa1 := HBXa.out.free 1
    replace HBR := Lib.hid (HBR.out.frm hs13 id)
    replace cR0 : w3.cell? ⟨R, 0, none⟩ = some (.int .i64 0) := HBR.out.cell 0
    replace cR1 : w3.cell? ⟨R, 1, none⟩ = some (.slice none 0 0) := HBR.out.cell 1
    replace lR := HBR.out.lt
    replace fR0 := HBR.out.free 0
    replace fR1 := HBR.out.free 1
    replace HS1 := Lib.hid (HS1.out.trans hs13 (fun _ _ h => h))
    clear hs13
    go_wp2
    refine wp_post fun we hwe => ?_
    have hBE : Blk we R 30 #[.int .i64 0, .slice none 0 0] := by
      rw [hwe]
      have := (HBR.out.set 0 (.int .i64 0)).set 1 (.slice none 0 0)
      simpa using this
    have hSE : Same w we := by rw [hwe]; exact (HS1.out.setNew 0 _ leR).setNew 1 _ leR
    have hr0 : we.cell? ⟨R, 0, none⟩ = some (.int .i64 0) := hBE.cell 0
    have hr1 : we.cell? ⟨R, 1, none⟩ = some (.slice none 0 0) := hBE.cell 1
    clear hwe hBE
    refine bodyPost_ret (v := .tuple #[.agg #[.int .i64 0, .slice none 0 0], .int .i64 c]) (by simp [results, Try.results28, go_sem, hr0, hr1]) rfl ?_
    exact ⟨none, 0, rfl, NewT.nil hSE⟩
  replace h0 : c = 0 := by omega
  subst h0
  obtain ⟨n, V, rfl, rfl, hf, hv⟩ := ofE_ok hc
  have hn := hf.n16
  unfold RetA
  rw [show ansN n 0 = n from rfl, show ansL (tab (n : Int).toNat (hfF (V : Int).toNat b wsa)) 0 = tab n (hfF V b wsa) from rfl]
  have HF := Lib.hid hf
  have HV := Lib.hid hv
  clear hc hf hv
  go_enter Try.func28, Try.ntmps28
  go_upto_region 1 with fail
  refine wp_world fun w1 hw1 => ?_
  have hs1 : Same w w1 := by rw [hw1]; exact ((Frm.refl _ _).alloc _).alloc _
  have hBXa : Blk w1 (w.heap.size) 30 #[.int .i64 n, .slice Aa wsa.length Ca] := by
    rw [hw1]
    have := ((Blk.new w 30 #[.int .i64 n, .slice Aa wsa.length Ca]).alloc (.cells #[.int .i64 0, .slice none 0 0] 30))
    simpa using this
  have hBR : Blk w1 (w.heap.size + 1) 30 #[.int .i64 0, .slice none 0 0] := by
    rw [hw1]
    have := (Blk.new (w.alloc (.cells #[.int .i64 n, .slice Aa wsa.length Ca] 30)) 30 #[.int .i64 0, .slice none 0 0])
    simpa using this
  clear hw1
  obtain ⟨R, hR⟩ : ∃ b, w.heap.size + 1 = b := ⟨_, rfl⟩
  rw [hR] at hBR ⊢
  have leR : w.heap.size ≤ R := by omega
  have neXaR : w.heap.size ≠ R := by omega
  clear hR
  have cXa0 : w1.cell? ⟨w.heap.size, 0, none⟩ = some (.int .i64 n) := hBXa.cell 0
  have cXa1 : w1.cell? ⟨w.heap.size, 1, none⟩ = some (.slice Aa wsa.length Ca) := hBXa.cell 1
  have lXa := hBXa.lt
  have fXa0 := hBXa.free 0
  have fXa1 := hBXa.free 1
  have HBXa := Lib.hid hBXa
  have cR0 : w1.cell? ⟨R, 0, none⟩ = some (.int .i64 0) := hBR.cell 0
  have cR1 : w1.cell? ⟨R, 1, none⟩ = some (.slice none 0 0) := hBR.cell 1
  have lR := hBR.lt
  have fR0 := hBR.free 0
  have fR1 := hBR.free 1
  have HBR := Lib.hid hBR
  have HS1 := Lib.hid hs1
  clear hs1 hBXa hBR
  go_wp2_with (fail)
  refine (HOF.out w1 (H.out.same HS1.out)).mono ?_
  rintro e w3 ⟨rfl, hs13⟩
  replace HBXa := Lib.hid (HBXa.out.frm hs13 id)
  replace cXa0 : w3.cell? ⟨w.heap.size, 0, none⟩ = some (.int .i64 n) := HBXa.out.cell 0
  replace cXa1 : w3.cell? ⟨w.heap.size, 1, none⟩ = some (.slice Aa wsa.length Ca) := HBXa.out.cell 1
  replace lXa := HBXa.out.lt
  replace fXa0 := HBXa.out.free 0
  replace fXa1 := HBXa.out.free 1
  replace HBR := Lib.hid (HBR.out.frm hs13 id)
  replace cR0 : w3.cell? ⟨R, 0, none⟩ = some (.int .i64 0) := HBR.out.cell 0
  replace cR1 : w3.cell? ⟨R, 1, none⟩ = some (.slice none 0 0) := HBR.out.cell 1
  replace lR := HBR.out.lt
  replace fR0 := HBR.out.free 0
  replace fR1 := HBR.out.free 1
  replace HS1 := Lib.hid (HS1.out.trans hs13 (fun _ _ h => h))
  clear hs13
  go_wp2_with (fail)
  refine (half_any n V b Aa Ca wsa w3 (H.out.same HS1.out) HF.out HV.out).mono ?_
  rintro e w4 ⟨Aq, Cq, rfl, hNT⟩
  have hoq := hNT.1
  have hfq := hNT.2.1
  have hsq := hNT.2.2
  have hRq : ∀ a, Aq = some a → a.block ≠ R := fun a ha h => by
    have := hfq a.block ⟨a, ha, rfl⟩
    omega
  have HBRq := Lib.hid (HBR.out.frm hsq id)
  have HSq := Lib.hid (HS1.out.trans hsq (fun _ _ h => h))
  have hfq' : Fresh w.heap.size Aq := fun b hb => by have := hfq b hb; have := HS1.out.size; omega
  have HOQ := Lib.hid hoq
  have HFQ := Lib.hid hfq'
  have hcR0 : w4.cell? ⟨R, 0, none⟩ = some (.int .i64 0) := HBRq.out.cell 0
  have hcR1 : w4.cell? ⟨R, 1, none⟩ = some (.slice none 0 0) := HBRq.out.cell 1
  have hfR0 := HBRq.out.free 0
  have hfR1 := HBRq.out.free 1
  have hlR := HBRq.out.lt
  clear hNT hoq hfq hsq hfq'
  go_wp2
  refine wp_post fun we hwe => ?_
  have hBE : Blk we R 30 #[.int .i64 n, .slice Aq (tab n (hfF V b wsa)).length Cq] := by
    rw [hwe]
    have := (HBRq.out.set 0 (.int .i64 n)).set 1 (.slice Aq (tab n (hfF V b wsa)).length Cq)
    simpa using this
  have hSE : Same w we := by rw [hwe]; exact (HSq.out.setNew 0 _ leR).setNew 1 _ leR
  have hOE : OwnW we Aq (tab n (hfF V b wsa)).length Cq (tab n (hfF V b wsa)) := by
    rw [hwe]
    exact (Own.far (p := ⟨R, 0, none⟩) HOQ.out hRq _).far (p := ⟨R, 1, none⟩) hRq _
  have hr0 : we.cell? ⟨R, 0, none⟩ = some (.int .i64 n) := hBE.cell 0
  have hr1 : we.cell? ⟨R, 1, none⟩ = some (.slice Aq (tab n (hfF V b wsa)).length Cq) := hBE.cell 1
  clear hwe hBE
  refine bodyPost_ret (v := .tuple #[.agg #[.int .i64 n, .slice Aq (tab n (hfF V b wsa)).length Cq], .int .i64 0]) (by simp [results, Try.results28, go_sem, hr0, hr1]) rfl ?_
  exact ⟨Aq, Cq, rfl, hOE, HFQ.out, hSE⟩
end Go.Proofs.Ytjgndclfbcijmaa


/- Truth tables: the reference's words, Form, bit, with, count. -/
namespace Go.Proofs.Ytjgndclfbcijmaa
open Go.RowKit Go.Tk

theorem bit_int (i v : Nat) : (((i : Int) / ((2 ^ v : Nat) : Int) % 2) == 1) = i.testBit v := by
  rw [testBit_dm, ← Int.natCast_ediv, Bool.eq_iff_iff, beq_iff_eq, decide_eq_true_eq]
  generalize i / 2 ^ v = x
  omega
end Go.Proofs.Ytjgndclfbcijmaa


/- Truth tables: Form of the reference. -/
namespace Go.Proofs.Ytjgndclfbcijmaa
open Go.RowKit Go.Tk

end Go.Proofs.Ytjgndclfbcijmaa


/- Truth tables: the reference's Values. -/
namespace Go.Tk
/-- values in a row -/
def vals (M : Nat) (F : Nat → Bool) : List Bool := (List.range M).map F
def mixF (G F : Nat → Bool) (k : Nat) : Nat → Bool := fun i => if i < k then G i else F i
theorem vals_len (M : Nat) (F : Nat → Bool) : (vals M F).length = M := by simp [vals]
theorem vals_get {M i : Nat} {F : Nat → Bool} (h : i < M) : (vals M F)[i]? = some (F i) := by simp [vals, h]
theorem vals_congr {M : Nat} {F G : Nat → Bool} (h : ∀ i, i < M → F i = G i) : vals M F = vals M G := by
  unfold vals
  apply List.map_congr_left
  intro i hi
  exact h i (List.mem_range.1 hi)
theorem vals_zero (M : Nat) (G F : Nat → Bool) : vals M (mixF G F 0) = vals M F := vals_congr fun i _ => by unfold mixF; rw [if_neg (by omega)]
theorem vals_false (M : Nat) : vals M (fun _ => false) = List.replicate M false := by
  unfold vals
  simp [List.map_const']
theorem vals_full (M : Nat) (G F : Nat → Bool) : vals M (mixF G F M) = vals M G := vals_congr fun i h => by unfold mixF; rw [if_pos h]
theorem vals_set {M k : Nat} {G F : Nat → Bool} (h : k < M) : (vals M (mixF G F k)).set k (G k) = vals M (mixF G F (k + 1)) := by
  apply List.ext_getElem?
  intro i
  rcases Nat.lt_or_ge i M with hi | hi
  · rw [List.getElem?_set, vals_len, vals_get hi, vals_get hi]
    split
    · rename_i he; subst he; simp [mixF]
    · rename_i he
      congr 1
      unfold mixF
      by_cases h1 : i < k
      · rw [if_pos h1, if_pos (by omega)]
      · rw [if_neg h1, if_neg (by omega)]
  · rw [List.getElem?_eq_none (by simp [vals_len, hi]), List.getElem?_eq_none (by rw [vals_len]; exact hi)]
theorem mix_at (G F : Nat → Bool) (k : Nat) : mixF G F k k = F k := by unfold mixF; rw [if_neg (by omega)]
end Go.Tk
namespace Go.Proofs.Ytjgndclfbcijmaa
open Go.RowKit Go.Tk

abbrev OwnB (w : World) (A : Option Addr) (N C : Nat) (bs : List Bool) : Prop := Row1 w 4 (fun b : Bool => .bool b) A N C bs
abbrev BL (w : World) (A : Option Addr) (n : Nat) (bs : List Bool) : Prop := Sl w 1 (fun b : Bool => [.bool b]) A n bs
theorem BL.at1 {w : World} {A : Option Addr} {n : Nat} {bs : List Bool} (h : BL w A n bs) {i : Nat} {x : Bool} (hi : bs[i]? = some x) : ∃ b off, A = some ⟨b, off, none⟩ ∧ b < w.heap.size ∧ w.cell? ⟨b, off + i, none⟩ = some (.bool x) := by
  obtain ⟨b, off, h1, h2, h3⟩ := h.get i x hi
  refine ⟨b, off, h1, h2, ?_⟩
  have := h3 0 (by omega)
  simpa using this
/-- a row of booleans of its own -/
def NewB (w : World) (bs : List Bool) (A : Option Addr) (C : Nat) (w' : World) : Prop := OwnB w' A bs.length C bs ∧ Fresh w.heap.size A ∧ Same w w'
theorem info_bool : (Try.prog.info? 4).map (fun i => (i.zero, i.size, i.bytes)) = some (some (.bool false), 1, 1) := by kernel_rfl
theorem pow_lt_shift {n : Nat} (h : n ≤ 16) : wrap64 ((2 : Int) ^ n) = ((2 ^ n : Nat) : Int) := by
  have hp := pow_le16 h
  rw [pow_int]
  generalize 2 ^ n = p at hp
  exact IntWalk.wrap64_in _ (by omega)
theorem pow_lt_shift2 {n : Nat} (h : n ≤ 16) : IntKind.i64.wrap ((2 : Int) ^ n) = ((2 ^ n : Nat) : Int) := by
  have hp := pow_le16 h
  rw [pow_int]
  generalize 2 ^ n = p at hp
  exact IntWalk.i64_in _ (by omega)
theorem bit_val (x r : Nat) : (((x / 2 ^ r % 2 : Nat) : Int) == 1) = x.testBit r := by
  rw [testBit_dm, Bool.eq_iff_iff, beq_iff_eq, decide_eq_true_eq]
  omega
end Go.Proofs.Ytjgndclfbcijmaa


/- Truth tables: the reference's Of. -/
namespace Go.Proofs.Ytjgndclfbcijmaa
open Go.RowKit Go.Tk

end Go.Proofs.Ytjgndclfbcijmaa


/- Truth tables: Same of the reference; the error of a table and a variable. -/
namespace Go.Proofs.Ytjgndclfbcijmaa
open Go.RowKit Go.Tk

/-- alike -/
def sm (Na Nb : Int) (wsa wsb : List Nat) : Bool := decide (Na = Nb ∧ wsa = wsb)
end Go.Proofs.Ytjgndclfbcijmaa


/- Truth tables: the reference's DocCofactor, DocExists. -/
namespace Go.Proofs.Ytjgndclfbcijmaa
open Go.RowKit Go.Tk

theorem OwnB.cell {w : World} {sb N C M i : Nat} {F : Nat → Bool} (h : OwnB w (some ⟨sb, 0, none⟩) N C (vals M F)) (hi : i < M) : sb < w.heap.size ∧ w.cell? ⟨sb, i, none⟩ = some (.bool (F i)) := by
  obtain ⟨sb', h1, h2, h3⟩ := Own.at1 (c := fun b : Bool => .bool b) h (vals_get hi)
  injection h1 with h1
  injection h1 with h1
  subst h1
  exact ⟨h2, h3⟩
theorem OwnB.put {w : World} {sb N C M k : Nat} {G Z : Nat → Bool} (h : OwnB w (some ⟨sb, 0, none⟩) N C (vals M (mixF G Z k))) (hk : k < M) : OwnB (w.setCell ⟨sb, k, none⟩ (.bool (G k))) (some ⟨sb, 0, none⟩) N C (vals M (mixF G Z (k + 1))) := by
  rw [← vals_set hk]
  exact Own.put1 (c := fun b : Bool => .bool b) h (by rw [vals_len]; exact hk) (G k)
end Go.Proofs.Ytjgndclfbcijmaa


/- Truth tables: Count of the program; Twin of the reference; small, alike. -/
namespace Go.Proofs.Ytjgndclfbcijmaa
open Go.RowKit Go.Tk

theorem u_flat : ∀ ws : List Nat, ws.flatMap ucell = ws.map fun x : Nat => Value.int .u64 (x : Int)
  | [] => rfl
  | x :: ws => by rw [List.flatMap_cons, List.map_cons, u_flat ws]; rfl
theorem same_grown {w0 w1 : World} {A : Option Addr} {N C : Nat} (hg : w0.grownBy w1 (Value.slice A N C).ownBlock) (hA : Fresh w0.heap.size A) : Same w0 w1 := (Frm.refl _ _).grown hg (fun g hg => .inr (hA g (ownBlock_row.1 hg)))
/-- the ones of the first k words -/
def popS (ws : List Nat) (k : Nat) : Nat := ((ws.take k).map popc).sum
theorem popc_le (x : Nat) : popc x ≤ 64 := cntB_le _ 64
theorem popS_succ {ws : List Nat} {k x : Nat} (h : ws[k]? = some x) : popS ws (k + 1) = popS ws k + popc x := by
  unfold popS
  rw [List.take_add_one, h]
  simp
theorem popS_le (ws : List Nat) : ∀ k, popS ws k ≤ 64 * k
  | 0 => by simp [popS]
  | k + 1 => by
    have ih := popS_le ws k
    cases h : ws[k]? with
    | none =>
      have : popS ws (k + 1) = popS ws k := by
        unfold popS
        rw [List.take_add_one, h]
        simp
      omega
    | some x =>
      rw [popS_succ h]
      have := popc_le x
      omega
end Go.Proofs.Ytjgndclfbcijmaa


/- Truth tables: small, alike, awake. -/
namespace Go.Tk
open Go.RowKit Go.Sort
theorem effStep_on {P : Program} {ops : Array Oper} {C : World → Prop} {o : Oper} {a : Act} {w : World} {K : Act → World → Prop} (hg : Region.wanted o (yielded ops a.tmps) = true)
    (h : ∀ K' : Act → World → Prop, (∀ a w, C w → K a w → K' a w) → o.wp P a w K' (fun _ _ _ => False)) : effStep P ops C o a w K := by
  have h1 := h (fun a w => C w ∧ K a w) (fun a w hc hw => ⟨hc, hw⟩)
  unfold effStep
  rw [if_pos hg]
  exact h1
end Go.Tk
namespace Go.Proofs.Ytjgndclfbcijmaa
open Go.RowKit Go.Tk

/-- a table of one word that lies in a block -/
structure Tq (w : World) (T : Nat) (A : Option Addr) (C x : Nat) : Prop where
  blk : Blk w T 30 #[.int .i64 2, .slice A 1 C]
  own : OwnW w A 1 C [x]
theorem Tq.same {w w' : World} {T : Nat} {A : Option Addr} {C x : Nat} (h : Tq w T A C x) (hs : Same w w') : Tq w' T A C x := ⟨h.blk.frm hs id, Own.frm h.own hs (fun _ _ => id)⟩
theorem Tq.make {w w' : World} {A : Option Addr} {C x : Nat} (h : OwnW w A 1 C [x]) (hw : w' = w.alloc (.cells #[.int .i64 2, .slice A 1 C] 30)) : Tq w' w.heap.size A C x ∧ Same w w' := by
  subst hw
  have hs : Same w (w.alloc (.cells #[.int .i64 2, .slice A 1 C] 30)) := (Frm.refl _ _).alloc _
  exact ⟨⟨Blk.new w _ _, Own.frm h hs (fun _ _ => id)⟩, hs⟩
theorem ok_own {w : World} {A : Option Addr} {C x : Nat} (h : OwnW w A 1 C [x]) (hx : x < 18446744073709551616) : TbOk w ⟨2, A, C, [x]⟩ :=
  ⟨h.sl ucell_len, fun y hy => by rw [List.mem_singleton.1 hy]; exact hx⟩
end Go.Proofs.Ytjgndclfbcijmaa


/- Truth tables: TruthGives: the walk. -/
namespace Go.Tk
open Go.RowKit
theorem Sl.map {w : World} {m n : Nat} {α β : Type} {f : β → List Value} {A : Option Addr} {xs : List α} (g : α → β) (h : Sl w m (fun x => f (g x)) A n xs) : Sl w m f A n (xs.map g) :=
  ⟨by rw [List.length_map]; exact h.len, fun i y hy => by
    rw [List.getElem?_map] at hy
    obtain ⟨x, hx, rfl⟩ := Option.map_eq_some_iff.1 hy
    exact h.get i x hx⟩
end Go.Tk
namespace Go.Proofs.Ytjgndclfbcijmaa
open Go.RowKit Go.Tk

abbrev tKs : List Leaf := [.int .i64, .slice 8 [.int .u64]]
def Tb.cells (t : Tb) : List Value := [.int .i64 t.N, .slice t.A t.ws.length t.C]
/-- a table that came in -/
structure TbIn (w : World) (t : Tb) : Prop where
  ok : TbOk w t
  room : t.ws.length * 8 ≤ 140737488351232
theorem u_of {w : World} : ∀ l, CellsOk w [.int .u64] l → ∃ x : {x : Nat // x < 18446744073709551616}, l = ucell x.1 := by
  rintro l ⟨v, vs, rfl, ⟨x, rfl, hx⟩, rfl⟩
  obtain ⟨h0, h1⟩ := bounds_u64 hx
  obtain ⟨n, rfl⟩ := Int.eq_ofNat_of_zero_le h0
  exact ⟨⟨n, by omega⟩, rfl⟩
theorem tb_of {w : World} : ∀ l, CellsOk w tKs l → ∃ t : {t : Tb // TbIn w t}, l = t.1.cells := by
  rintro l ⟨v, vs, rfl, ⟨N, rfl, _⟩, v2, vs2, rfl, h2, rfl⟩
  obtain ⟨A, n, C, xs, rfl, hnc, _, hb, hs⟩ := slice_ok (fun x : {x : Nat // x < 18446744073709551616} => ucell x.1) (by decide) u_of h2
  have h := Sl.map (f := ucell) Subtype.val hs
  obtain rfl := h.len
  refine ⟨⟨⟨N, A, C, xs.map Subtype.val⟩, ⟨⟨h, fun x hx => ?_⟩, Nat.le_trans (Nat.mul_le_mul_right 8 hnc) hb⟩⟩, rfl⟩
  obtain ⟨y, _, rfl⟩ := List.mem_map.1 hx
  exact y.2
theorem ofE_len {N v : Int} {ws : List Nat} {F : Nat → Bool} : (ansL (tab N.toNat F) (ofE N v ws)).length ≤ 1000000000000000000 := by
  unfold ansL
  split
  · rename_i h
    obtain ⟨n, V, rfl, _, hf, _⟩ := ofE_ok h
    rw [tab_len]
    have := nw_le hf.n16
    have h2 : ((n : Int)).toNat = n := Int.toNat_natCast n
    rw [h2]
    omega
  · simp
theorem sm_self (N : Int) (ws : List Nat) : sm N N ws ws = true := by simp [sm]
end Go.Proofs.Ytjgndclfbcijmaa


/- WholeShape: growing lists of tables; rows of words that came in. -/
namespace Go.Proofs.Ytjgndclfbcijmaa
open Go.RowKit Go.Tk

theorem info_tb3 : (Try.prog.info? 30).map (fun i => (i.zero, i.size, i.bytes)) = some (some (.agg #[.int .i64 0, .slice none 0 0]), 2, 32) := by kernel_rfl
/-- so many tables so far: new ones, of nn variables, of these words -/
structure GL (w0 w : World) (nn : Nat) (zs : List (List Nat)) (k : Nat) (A : Option Addr) (D : Nat) (ts : List Tb) : Prop where
  same : Same w0 w
  own : Own w 30 2 Tb.cells A k D ts
  fresh : Fresh w0.heap.size A
  rows : ∀ (i : Nat) (t : Tb), ts[i]? = some t → OwnW w t.A t.ws.length t.C t.ws ∧ t.N = (nn : Int) ∧ zs[i]? = some t.ws
theorem GL.nil (w : World) (nn : Nat) (zs : List (List Nat)) : GL w w nn zs 0 none 0 [] := ⟨Frm.refl _ _, Own.nil _ _ _ _, fresh_none _, fun i t hi => by simp at hi⟩
theorem GL.next {w0 w w' : World} {nn : Nat} {zs : List (List Nat)} {k : Nat} {A : Option Addr} {D : Nat} {ts : List Tb} (h : GL w0 w nn zs k A D ts) (hs : Same w w') : GL w0 w' nn zs k A D ts :=
  ⟨h.same.trans hs (fun _ _ h => h), Own.frm h.own hs (fun _ _ => id), h.fresh, fun i t hi => ⟨Own.frm (h.rows i t hi).1 hs (fun _ _ => id), (h.rows i t hi).2⟩⟩
theorem GL.step {w0 w wa wb : World} {nn : Nat} {zs : List (List Nat)} {k : Nat} {A : Option Addr} {D : Nat} {ts : List Tb} (h : GL w0 w nn zs k A D ts) (hs : Same w wa) {t : Tb} (ht : OwnW wa t.A t.ws.length t.C t.ws) (hN : t.N = (nn : Int)) (hw : zs[k]? = some t.ws) {g D' : Nat}
    (hg : wa.grownBy wb (Value.slice A k D).ownBlock) (ho : Own wb 30 2 Tb.cells (some ⟨g, 0, none⟩) (k + 1) D' (ts ++ [t])) (hat : (A = some ⟨g, 0, none⟩ ∧ D' = D) ∨ (g = wa.heap.size ∧ wa.grownBy wb none)) : GL w0 wb nn zs (k + 1) (some ⟨g, 0, none⟩) D' (ts ++ [t]) := by
  have h1 := h.next hs
  have hsz := h1.same.size
  have kp : ∀ {B : Option Addr} {N C : Nat} {ys : List Nat}, OwnW wa B N C ys → OwnW wb B N C ys := fun ho => Own.keptBy ho hg (fun b hb hA => Own.ne_own ho h1.own (by decide) b hA (ownBlock_row.1 hb))
  refine ⟨h1.same.grown hg (fun g hg => .inr (h.fresh g (ownBlock_row.1 hg))), ho, ?_, fun i s hi => ?_⟩
  · rcases hat with ⟨h2, _⟩ | ⟨h2, _⟩
    · rw [← h2]; exact h.fresh
    · exact fresh_some (by omega)
  · rcases Nat.lt_or_ge i ts.length with hl | hl
    · rw [List.getElem?_append_left hl] at hi
      exact ⟨kp (h1.rows i s hi).1, (h1.rows i s hi).2⟩
    · rw [List.getElem?_append_right hl] at hi
      have h3 := lt_of_get hi
      simp at h3
      have h4 : i - ts.length = 0 := by omega
      rw [h4] at hi
      obtain rfl := Option.some.inj hi
      have hk : i = k := by have := h.own.len; omega
      subst hk
      exact ⟨kp ht, hN, hw⟩
theorem GL.ok {w0 w : World} {nn : Nat} {zs : List (List Nat)} {k : Nat} {A : Option Addr} {D : Nat} {ts : List Tb} (h : GL w0 w nn zs k A D ts) (hz : ∀ z ∈ zs, Small z) : ∀ t ∈ ts, TbOk w t := fun t ht => by
  obtain ⟨i, hi⟩ := List.getElem?_of_mem ht
  obtain ⟨h1, _, h3⟩ := h.rows i t hi
  exact ⟨h1.sl ucell_len, hz _ (List.mem_of_getElem? h3)⟩
theorem GL.sl {w0 w : World} {nn : Nat} {zs : List (List Nat)} {k : Nat} {A : Option Addr} {D : Nat} {ts : List Tb} (h : GL w0 w nn zs k A D ts) : Sl w 2 Tb.cells A k ts := Own.sl (m := 2) (f := Tb.cells) (fun _ => rfl) h.own
theorem GL.ws {w0 w : World} {nn : Nat} {zs : List (List Nat)} {A : Option Addr} {D : Nat} {ts : List Tb} (h : GL w0 w nn zs zs.length A D ts) : ts.map Tb.ws = zs := by
  apply List.ext_getElem?
  intro i
  rw [List.getElem?_map]
  have hl := h.own.len
  rcases Nat.lt_or_ge i zs.length with hi | hi
  · obtain ⟨t, ht⟩ : ∃ t, ts[i]? = some t := ⟨_, List.getElem?_eq_getElem (by omega)⟩
    rw [ht, (h.rows i t ht).2.2]
    rfl
  · rw [List.getElem?_eq_none (by omega), List.getElem?_eq_none (by omega)]
    rfl
theorem GL.N {w0 w : World} {nn : Nat} {zs : List (List Nat)} {k : Nat} {A : Option Addr} {D : Nat} {ts : List Tb} (h : GL w0 w nn zs k A D ts) : ∀ t ∈ ts, t.N = (nn : Int) ∧ t.ws ∈ zs := fun t ht => by
  obtain ⟨i, hi⟩ := List.getElem?_of_mem ht
  obtain ⟨_, h2, h3⟩ := h.rows i t hi
  exact ⟨h2, List.mem_of_getElem? h3⟩
/-! rows that came in -/
structure WRow where
  A : Option Addr
  C : Nat
  us : List Nat
def WRow.cells (r : WRow) : List Value := [.slice r.A r.us.length r.C]
structure RowIn (w : World) (r : WRow) : Prop where
  wl : WL w r.A r.us.length r.us
  small : Small r.us
theorem RowIn.same {w w' : World} {r : WRow} (h : RowIn w r) (hs : Same w w') : RowIn w' r := ⟨Sl.same h.wl hs, h.small⟩
abbrev rowKs : List Leaf := [.slice 8 [.int .u64]]
theorem row_of {w : World} : ∀ l, CellsOk w rowKs l → ∃ r : {r : WRow // RowIn w r}, l = r.1.cells := by
  rintro l ⟨v2, vs2, rfl, h2, rfl⟩
  obtain ⟨A, n, C, xs, rfl, hnc, _, hb, hs⟩ := slice_ok (fun x : {x : Nat // x < 18446744073709551616} => ucell x.1) (by decide) u_of h2
  have h := Sl.map (f := ucell) Subtype.val hs
  obtain rfl := h.len
  refine ⟨⟨⟨A, C, xs.map Subtype.val⟩, ⟨h, fun x hx => ?_⟩⟩, rfl⟩
  obtain ⟨y, _, rfl⟩ := List.mem_map.1 hx
  exact y.2
theorem rows_vals {w : World} {A : Option Addr} {n : Nat} {xs : List {r : WRow // RowIn w r}} (h : Sl w 1 (fun x : {r : WRow // RowIn w r} => x.1.cells) A n xs) : Sl w 1 WRow.cells A n (xs.map (·.1)) ∧ ∀ r ∈ xs.map (·.1), RowIn w r :=
  ⟨Sl.map (f := WRow.cells) (fun x : {r : WRow // RowIn w r} => x.1) h, fun r hr => by obtain ⟨y, _, rfl⟩ := List.mem_map.1 hr; exact y.2⟩
end Go.Proofs.Ytjgndclfbcijmaa


/- Truth tables: good of the law, formed of the reference. -/
namespace Go.Proofs.Ytjgndclfbcijmaa
open Go.RowKit Go.Tk

end Go.Proofs.Ytjgndclfbcijmaa


/- Truth tables: At of the program and of the reference. -/
namespace Go.Proofs.Ytjgndclfbcijmaa
open Go.RowKit Go.Tk

def atE (fr : Bool) (N : Int) (x : Nat) : Int := if fr then (if x < 2 ^ N.toNat then 0 else 1) else 5
def atB (N : Int) (ws : List Nat) (x : Nat) : Bool := if atE (frm N ws) N x = 0 then vb ws x else false
theorem and1_bit (y r : Nat) (hy : y < 18446744073709551616) : (bits .and .u64 ((y / 2 ^ r : Nat) : Int) 1 == 1) = y.testBit r := by
  have h1 : y / 2 ^ r ≤ y := Nat.div_le_self _ _
  have h3 := u64_and_nat (y / 2 ^ r) 1 (by omega) (by omega)
  rw [nat_mask1] at h3
  rw [show (1 : Int) = ((1 : Nat) : Int) from rfl, h3, testBit_dm]
  generalize y / 2 ^ r % 2 = z
  rw [Bool.eq_iff_iff, beq_iff_eq, decide_eq_true_eq]
  omega
end Go.Proofs.Ytjgndclfbcijmaa


/- Truth tables: TruthPoints: the walk. -/
namespace Go.Proofs.Ytjgndclfbcijmaa
open Go.RowKit Go.Tk

theorem popS_cnt {ws : List Nat} : ∀ k, k ≤ ws.length → popS ws k = cntB (vb ws) (64 * k)
  | 0, _ => rfl
  | k + 1, h => by
    obtain ⟨x, hx⟩ : ∃ x, ws[k]? = some x := ⟨_, List.getElem?_eq_getElem (by omega)⟩
    rw [popS_succ hx, popS_cnt k (by omega), show 64 * (k + 1) = 64 * k + 64 by omega, cntB_add]
    unfold popc
    congr 1
    exact cntB_congr fun j hj => (vb_word hx hj).symm
theorem popS_form {n : Nat} {ws : List Nat} (h : FormN n ws) : popS ws ws.length = cntB (vb ws) (2 ^ n) := by
  rw [popS_cnt _ (Nat.le_refl _), h.len]
  by_cases h6 : 6 ≤ n
  · rw [Nat.mul_comm, nw_mul h6]
  · have hp := Nat.pow_le_pow_right (show 0 < 2 by omega) (show n ≤ 5 by omega)
    rw [nw_small (by omega), show 64 * 1 = 2 ^ n + (64 - 2 ^ n) by omega, cntB_add]
    have : cntB (fun j => vb ws (2 ^ n + j)) (64 - 2 ^ n) = 0 := cntB_false fun j hj => by
      unfold vb
      have hlt : 2 ^ n + j < 64 := by omega
      rw [Nat.div_eq_of_lt hlt, Nat.mod_eq_of_lt hlt]
      exact Nat.testBit_lt_two_pow (Nat.lt_of_lt_of_le (h.top (by omega)) (Nat.pow_le_pow_right (by omega) (by omega)))
    omega
end Go.Proofs.Ytjgndclfbcijmaa


/- Truth tables: the reference's DocConst, DocVar. -/
namespace Go.Proofs.Ytjgndclfbcijmaa
open Go.RowKit Go.Tk

end Go.Proofs.Ytjgndclfbcijmaa


/- Truth tables: TruthForms: the walk. -/
namespace Go.Proofs.Ytjgndclfbcijmaa
open Go.RowKit Go.Tk

theorem tab_len_le {n : Nat} {F : Nat → Bool} (h : n ≤ 16) : (tab n F).length ≤ 1000000000000000000 := by
  rw [tab_len]
  have := nw_le h
  omega
theorem cntE_len {N : Int} {F : Nat → Bool} : (ansL (tab N.toNat F) (cntE N)).length ≤ 1000000000000000000 := by
  unfold ansL
  split
  · rename_i h
    have := cntE_ok h
    exact tab_len_le (by omega)
  · simp
theorem varE_len {N v : Int} {F : Nat → Bool} : (ansL (tab N.toNat F) (varE N v)).length ≤ 1000000000000000000 := by
  unfold ansL
  split
  · rename_i h
    unfold varE at h
    split at h
    · rename_i h2; exact absurd h h2
    · rename_i h2
      have := cntE_ok (Decidable.not_not.1 h2)
      exact tab_len_le (by omega)
  · simp
end Go.Proofs.Ytjgndclfbcijmaa


/- Truth tables: Ite of the program. -/
namespace Go.Proofs.Ytjgndclfbcijmaa
open Go.RowKit Go.Tk

def iteN (x y z : Nat) : Nat := (x &&& y) ||| (notN x &&& z)
theorem iteN_lt {x y z : Nat} (hx : x < 18446744073709551616) : iteN x y z < 18446744073709551616 :=
  Nat.or_lt_two_pow (n := 64) (Nat.lt_of_le_of_lt Nat.and_le_left hx) (Nat.lt_of_le_of_lt Nat.and_le_left (notN_lt x))
theorem iteN_bit {x y z j : Nat} (hx : x < 18446744073709551616) (hj : j < 64) : (iteN x y z).testBit j = if x.testBit j then y.testBit j else z.testBit j := by
  unfold iteN
  rw [Nat.testBit_or, Nat.testBit_and, Nat.testBit_and, notN_bit hx hj]
  cases x.testBit j <;> simp
def iteF (wsa wsb wsc : List Nat) : Nat → Bool := fun i => if vb wsa i then vb wsb i else vb wsc i
theorem fm_three {Na Nb Nc : Int} {Aa Ab Ac : Option Addr} {Ca Cb Cc : Nat} {wsa wsb wsc : List Nat} (h : fm [⟨Na, Aa, Ca, wsa⟩, ⟨Nb, Ab, Cb, wsb⟩, ⟨Nc, Ac, Cc, wsc⟩] = true) : ∃ n : Nat, Na = n ∧ Nb = n ∧ Nc = n ∧ FormN n wsa ∧ FormN n wsb ∧ FormN n wsc := by
  simp [fm, Tb.frm] at h
  obtain ⟨h1, ⟨h2, h3⟩, h4, h5⟩ := h
  obtain ⟨n, rfl, ha⟩ := frm_true h1
  rw [h3] at h2
  rw [h5] at h4
  exact ⟨n, rfl, h3, h5, ha, frm_nat.1 h2, frm_nat.1 h4⟩
end Go.Proofs.Ytjgndclfbcijmaa


/- Truth tables: the reference's DocNot, DocBinary, DocIte. -/
namespace Go.Proofs.Ytjgndclfbcijmaa
open Go.RowKit Go.Tk

end Go.Proofs.Ytjgndclfbcijmaa


/- Truth tables: TruthJoins: the walk. -/
namespace Go.Proofs.Ytjgndclfbcijmaa
open Go.RowKit Go.Tk

abbrev TIn (w : World) := {t : Tb // TbIn w t}
theorem tabs_at {w : World} {A : Option Addr} {n : Nat} {xs : List (TIn w)} (h : Sl w 2 (fun x : TIn w => x.1.cells) A n xs) {i : Nat} (hi : i < n) : ∃ (bl o : Nat) (t : Tb), A = some ⟨bl, o, none⟩ ∧ bl < w.heap.size ∧ TbIn w t ∧
    w.cell? ⟨bl, o + i * 2 + 0, none⟩ = some (.int .i64 t.N) ∧ w.cell? ⟨bl, o + i * 2 + 1, none⟩ = some (.slice t.A t.ws.length t.C) := by
  obtain ⟨x, hx⟩ : ∃ x, xs[i]? = some x := ⟨_, List.getElem?_eq_getElem (by rw [← h.len]; exact hi)⟩
  obtain ⟨b, o, hA, hb, hc⟩ := h.get i x hx
  exact ⟨b, o, x.1, hA, hb, x.2, hc 0 (by omega), hc 1 (by omega)⟩
theorem fmE_len {N : Int} {F : Nat → Bool} {b : Bool} (h : b = true → N.toNat ≤ 16) : (ansL (tab N.toNat F) (fmE b)).length ≤ 1000000000000000000 := by
  cases b with
  | false => simp [fmE, ansL]
  | true =>
    rw [show ansL (tab N.toNat F) (fmE true) = tab N.toNat F from rfl]
    exact tab_len_le (h rfl)
theorem binE_len {N : Int} {F : Nat → Bool} {b : Bool} {op : Nat} (h : b = true → N.toNat ≤ 16) : (ansL (tab N.toNat F) (binE op b)).length ≤ 1000000000000000000 := by
  unfold binE
  split
  · simp [ansL]
  · exact fmE_len h
theorem frm_16 {N : Int} {ws : List Nat} (h : frm N ws = true) : N.toNat ≤ 16 := by
  obtain ⟨n, rfl, hf⟩ := frm_true h
  have := hf.n16
  omega
theorem fm_16 {N : Int} {A : Option Addr} {C : Nat} {ws : List Nat} {r : List Tb} (h : fm (⟨N, A, C, ws⟩ :: r) = true) : N.toNat ≤ 16 := by
  have : frm N ws = true := by
    simp [fm, Tb.frm] at h
    exact h.1
  exact frm_16 this
end Go.Proofs.Ytjgndclfbcijmaa


/- Truth tables: slices.Equal at words; Support of the program and of the reference; DocCount. -/
namespace Go.Proofs.Ytjgndclfbcijmaa
open Go.RowKit Go.Tk

set_option maxRecDepth 100000 in
set_option maxHeartbeats 4000000 in
theorem equalW_any (Aa : Option Addr) (La Ca : Nat) (wsa : List Nat) (Ab : Option Addr) (Lb Cb : Nat) (wsb : List Nat) (w : World) (ha : WL w Aa La wsa) (hb : WL w Ab Lb wsb) (hbd : La ≤ 1000000000000000000) :
    Calls Try.prog 30 #[.slice Aa La Ca, .slice Ab Lb Cb] w fun e w' => e = .returned (.bool (decide (wsa = wsb))) ∧ Same w w' := by
  have hla := ha.len
  have hlb := hb.len
  obtain ⟨r, hr⟩ : ∃ r, decide (wsa = wsb) = r := ⟨_, rfl⟩
  rw [hr]
  have HA := Lib.hid ha
  have HB := Lib.hid hb
  by_cases h2 : La = Lb
  · subst h2
    have HR := Lib.hid hr
    have HLA := Lib.hid hla
    have HLB := Lib.hid hlb
    clear hr hla hlb ha hb
    go_enter Try.func30, Try.ntmps30
    go_wp2
    go_loopw [13] (fun i wr => ∃ k : Nat, k ≤ La ∧ i = .int .i64 k ∧ (∀ j x y, wsa[j]? = some x → wsb[j]? = some y → j < k → x = y) ∧ Same w wr) (fun i _ => La - (intOf i).toNat)
    case atStart => exact ⟨0, by omega, rfl, fun j x y _ _ h => by omega, Frm.refl _ _⟩
    case round =>
      obtain ⟨k, hk, rfl, hall, hs⟩ := hrel
      have HALL := Lib.hid hall
      have HSR := Lib.hid hs
      clear hall
      by_cases hlt : k < La
      · have hk0 : (0 : Int) ≤ k := by omega
        have hk1 : (k : Int) < La := by omega
        obtain ⟨x, hx⟩ : ∃ x, wsa[k]? = some x := ⟨_, List.getElem?_eq_getElem (by rw [← HLA.out]; exact hlt)⟩
        obtain ⟨y, hy⟩ : ∃ x, wsb[k]? = some x := ⟨_, List.getElem?_eq_getElem (by rw [← HLB.out]; exact hlt)⟩
        obtain ⟨ba, offa, hAa, hbla, hca⟩ := WL.at1 (Sl.same HA.out hs) hx
        obtain ⟨bb, offb, hAb, hblb, hcb⟩ := WL.at1 (Sl.same HB.out hs) hy
        subst hAa hAb
        have HX := Lib.hid hx
        have HY := Lib.hid hy
        clear hx hy hs
        by_cases hxy : x = y
        · subst hxy
          have hbq : ((x : Int) != (x : Int)) = false := by simp
          go_upto_region 6 with fail
          refine wp_quiet (by kernel_rfl) (by kernel_rfl) ?_
          repeat (any_goals (first | go_big_quiet_step (fail) | quiet_step (fail)))
          refine wpQuiet_nil ?_
          rintro wq ⟨q, hq⟩
          have hsq : Same wr wq := by rw [hq]; exact more_same _ q
          clear hq
          go_wp2
          go_roundw
          case rel => exact ⟨k + 1, by omega, by go_num, fun j x' y' hx' hy' hj => by
            by_cases hjk : j < k
            · exact HALL.out j x' y' hx' hy' hjk
            · obtain rfl : j = k := by omega
              exact (Option.some.inj (hx'.symm.trans HX.out)).trans (Option.some.inj (hy'.symm.trans HY.out)).symm, HSR.out.trans hsq (fun _ _ h => h)⟩
          case measure => simp [intOf] <;> omega
        · have hf : r = false := by
            rw [← HR.out]
            rw [decide_eq_false_iff_not]
            intro hw
            rw [hw] at HX
            exact hxy (Option.some.inj (HX.out.symm.trans HY.out))
          subst hf
          have hxi : (x : Int) ≠ y := by omega
          go_upto_region 6 with fail
          refine wp_quiet (by kernel_rfl) (by kernel_rfl) ?_
          repeat (any_goals (first | go_big_quiet_step (fail) | quiet_step (fail)))
          refine wpQuiet_nil ?_
          rintro wq ⟨q, hq⟩
          have hsq : Same wr wq := by rw [hq]; exact more_same _ q
          clear hq
          go_wp2
          go_ret
          exact ⟨rfl, HSR.out.trans hsq (fun _ _ h => h)⟩
      · obtain rfl : k = La := by omega
        have hf : r = true := by
          rw [← HR.out]
          rw [decide_eq_true_eq]
          refine List.ext_getElem? fun j => ?_
          by_cases hj : j < k
          · obtain ⟨x, hx⟩ : ∃ x, wsa[j]? = some x := ⟨_, List.getElem?_eq_getElem (by rw [← HLA.out]; exact hj)⟩
            obtain ⟨y, hy⟩ : ∃ x, wsb[j]? = some x := ⟨_, List.getElem?_eq_getElem (by rw [← HLB.out]; exact hj)⟩
            rw [hx, hy, HALL.out j x y hx hy hj]
          · rw [List.getElem?_eq_none (by rw [← HLA.out]; omega), List.getElem?_eq_none (by rw [← HLB.out]; omega)]
        subst hf
        clear hs
        go_wp2
        go_ret
        exact ⟨rfl, HSR.out⟩
  · have hf : r = false := by
      rw [← hr]
      rw [decide_eq_false_iff_not]
      intro hw
      rw [hw] at hla
      omega
    subst hf
    have h3 : (La : Int) ≠ Lb := by omega
    clear hr hla hlb ha hb
    go_enter Try.func30, Try.ntmps30
    go_wp2
    go_ret
    exact ⟨rfl, Frm.refl _ _⟩
theorem run_words (a : Int) (A : Option Addr) (n C : Nat) (w : World) : (Instr.field 30 (.agg #[.int .i64 a, .slice A n C]) 1).run Try.prog w = .ok (.slice A n C) w := rfl
/-- does it depend on v? -/
def depB (n : Nat) (ws : List Nat) (v : Nat) : Bool := !decide (tab n (hfF v false ws) = tab n (hfF v true ws))
theorem depB_false {n : Nat} {ws : List Nat} {v : Nat} (h : ∀ i, i < 2 ^ n → hfF v false ws i = hfF v true ws i) : depB n ws v = false := by
  unfold depB
  rw [tab_congr h]
  simp
theorem depB_true {n : Nat} {ws : List Nat} {v i : Nat} (hi : i < 2 ^ n) (h : hfF v false ws i ≠ hfF v true ws i) : depB n ws v = true := by
  unfold depB
  have : tab n (hfF v false ws) ≠ tab n (hfF v true ws) := fun he => h (by
    have h2 := congrArg (fun t => vb t i) he
    simp only [vb_tab hi] at h2
    exact h2)
  simp [this]
def supN (N : Int) (ws : List Nat) : Nat := if frm N ws then bsum (depB N.toNat ws) N.toNat else 0
theorem bsum_add (F : Nat → Bool) (j : Nat) : bsum F j + (if F j then 2 ^ j else 0) = bsum F (j + 1) := rfl
set_option maxRecDepth 100000 in
set_option maxHeartbeats 8000000 in
theorem Support_any (Na : Int) (Aa : Option Addr) (Ca : Nat) (wsa : List Nat) (w : World) (h : TbOk w ⟨Na, Aa, Ca, wsa⟩) : Calls Try.prog 23 #[.agg #[.int .i64 Na, .slice Aa wsa.length Ca]] w fun e w' => e = .returned (.tuple #[.int .u64 (supN Na wsa : Nat), .int .i64 (fmE (frm Na wsa))]) ∧ Same w w' := by
  have H := Lib.hid h
  clear h
  unfold supN
  cases hfr : frm Na wsa with
  | false =>
    rw [if_neg (by decide), show fmE false = 5 from rfl]
    have HFM := Lib.hid ((frm_one Na Aa Ca wsa).trans hfr)
    clear hfr
    go_enter Try.func23, Try.ntmps23
    go_upto_region 1 with fail
    refine wp_world fun w1 hw1 => ?_
    have hs1 : Same w w1 := by rw [hw1]; exact (Frm.refl _ _).alloc _
    have hBXa : Blk w1 (w.heap.size) 30 #[.int .i64 Na, .slice Aa wsa.length Ca] := by
      rw [hw1]
      have := (Blk.new w 30 #[.int .i64 Na, .slice Aa wsa.length Ca])
      simpa using this
    clear hw1
    have cXa0 : w1.cell? ⟨w.heap.size, 0, none⟩ = some (.int .i64 Na) := hBXa.cell 0
    have cXa1 : w1.cell? ⟨w.heap.size, 1, none⟩ = some (.slice Aa wsa.length Ca) := hBXa.cell 1
    have lXa := hBXa.lt
    have fXa0 := hBXa.free 0
    have fXa1 := hBXa.free 1
    have HBXa := Lib.hid hBXa
    have HS1 := Lib.hid hs1
    clear hs1 hBXa
    have HOKa := Lib.hid (H.out.same HS1.out)
    go_wp2_with (fail)
    refine call_world fun w2 hw2 => ?_
    have hs2 : Same w1 w2 := by rw [hw2]; exact (Frm.refl _ _).alloc _
    have hBL : Blk w2 w1.heap.size 30 #[.int .i64 Na, .slice Aa wsa.length Ca] := by rw [hw2]; exact Blk.new _ _ _
    have htbs : Tbs w2 w1.heap.size [⟨Na, Aa, Ca, wsa⟩] := by
      intro i t hi
      match i, hi with
      | 0, hi =>
        simp only [List.getElem?_cons_zero, Option.some.injEq] at hi
        subst hi
        exact ⟨hBL.lt, hBL.cell 0, hBL.cell 1⟩
      | i + 1, hi => simp at hi
    have hfc := form_any w1.heap.size 1 1 [⟨Na, Aa, Ca, wsa⟩] w2 rfl (by decide) htbs (fun t ht => by
      simp only [List.mem_cons, List.not_mem_nil, or_false] at ht
      rcases ht with rfl
      · exact (HOKa.out).same hs2)
    rw [HFM.out] at hfc
    refine hfc.mono ?_
    clear hfc htbs hBL hw2
    rintro e w3 ⟨rfl, hs3⟩
    have hs13 : Same w1 w3 := hs2.trans hs3 (fun _ _ h => h)
    clear hs2 hs3
    replace HBXa := Lib.hid (HBXa.out.frm hs13 id)
    replace cXa0 : w3.cell? ⟨w.heap.size, 0, none⟩ = some (.int .i64 Na) := HBXa.out.cell 0
    replace cXa1 : w3.cell? ⟨w.heap.size, 1, none⟩ = some (.slice Aa wsa.length Ca) := HBXa.out.cell 1
    replace lXa := HBXa.out.lt
    replace fXa0 := HBXa.out.free 0
    replace fXa1 := HBXa.out.free 1
    replace HS1 := Lib.hid (HS1.out.trans hs13 (fun _ _ h => h))
    clear hs13
    go_wp2
    go_ret2
    exact ⟨rfl, HS1.out⟩
  | true =>
    obtain ⟨n, rfl, hform⟩ := frm_true hfr
    rw [if_pos rfl, show fmE true = 0 from rfl, Int.toNat_natCast]
    have HFM := Lib.hid ((frm_one n Aa Ca wsa).trans hfr)
    have hn := hform.n16
    have HF := Lib.hid hform
    clear hfr hform
    obtain ⟨pf, hpf⟩ : ∃ p, bsum (depB n wsa) n = p := ⟨_, rfl⟩
    rw [hpf]
    have HPF := Lib.hid hpf
    clear hpf
    go_enter Try.func23, Try.ntmps23
    go_upto_region 1 with fail
    refine wp_world fun w1 hw1 => ?_
    have hs1 : Same w w1 := by rw [hw1]; exact (Frm.refl _ _).alloc _
    have hBXa : Blk w1 (w.heap.size) 30 #[.int .i64 n, .slice Aa wsa.length Ca] := by
      rw [hw1]
      have := (Blk.new w 30 #[.int .i64 n, .slice Aa wsa.length Ca])
      simpa using this
    clear hw1
    have cXa0 : w1.cell? ⟨w.heap.size, 0, none⟩ = some (.int .i64 n) := hBXa.cell 0
    have cXa1 : w1.cell? ⟨w.heap.size, 1, none⟩ = some (.slice Aa wsa.length Ca) := hBXa.cell 1
    have lXa := hBXa.lt
    have fXa0 := hBXa.free 0
    have fXa1 := hBXa.free 1
    have HBXa := Lib.hid hBXa
    have HS1 := Lib.hid hs1
    clear hs1 hBXa
    have HOKa := Lib.hid (H.out.same HS1.out)
    go_wp2_with (fail)
    refine call_world fun w2 hw2 => ?_
    have hs2 : Same w1 w2 := by rw [hw2]; exact (Frm.refl _ _).alloc _
    have hBL : Blk w2 w1.heap.size 30 #[.int .i64 n, .slice Aa wsa.length Ca] := by rw [hw2]; exact Blk.new _ _ _
    have htbs : Tbs w2 w1.heap.size [⟨n, Aa, Ca, wsa⟩] := by
      intro i t hi
      match i, hi with
      | 0, hi =>
        simp only [List.getElem?_cons_zero, Option.some.injEq] at hi
        subst hi
        exact ⟨hBL.lt, hBL.cell 0, hBL.cell 1⟩
      | i + 1, hi => simp at hi
    have hfc := form_any w1.heap.size 1 1 [⟨n, Aa, Ca, wsa⟩] w2 rfl (by decide) htbs (fun t ht => by
      simp only [List.mem_cons, List.not_mem_nil, or_false] at ht
      rcases ht with rfl
      · exact (HOKa.out).same hs2)
    rw [HFM.out] at hfc
    refine hfc.mono ?_
    clear hfc htbs hBL hw2
    rintro e w3 ⟨rfl, hs3⟩
    have hs13 : Same w1 w3 := hs2.trans hs3 (fun _ _ h => h)
    clear hs2 hs3
    replace HBXa := Lib.hid (HBXa.out.frm hs13 id)
    replace cXa0 : w3.cell? ⟨w.heap.size, 0, none⟩ = some (.int .i64 n) := HBXa.out.cell 0
    replace cXa1 : w3.cell? ⟨w.heap.size, 1, none⟩ = some (.slice Aa wsa.length Ca) := HBXa.out.cell 1
    replace lXa := HBXa.out.lt
    replace fXa0 := HBXa.out.free 0
    replace fXa1 := HBXa.out.free 1
    replace HS1 := Lib.hid (HS1.out.trans hs13 (fun _ _ h => h))
    clear hs13
    go_wp2
    go_loopw [4, 12] (fun s i wr => ∃ k : Nat, k ≤ n ∧ i = .int .i64 k ∧ s = .int .u64 (bsum (depB n wsa) k : Nat) ∧ Same w3 wr) (fun _ i _ => n - (intOf i).toNat)
    case atStart => exact ⟨0, by omega, rfl, rfl, Frm.refl _ _⟩
    case round =>
      obtain ⟨k, hk, rfl, rfl, hs⟩ := hrel
      have HS0 := Lib.hid hs
      have HBr := Lib.hid (HBXa.out.frm hs id)
      have HSr := Lib.hid (HS1.out.trans hs (fun _ _ h => h))
      have dX0 : wr.cell? ⟨w.heap.size, 0, none⟩ = some (.int .i64 n) := HBr.out.cell 0
      have dX1 : wr.cell? ⟨w.heap.size, 1, none⟩ = some (.slice Aa wsa.length Ca) := HBr.out.cell 1
      have dXl := HBr.out.lt
      clear cXa0 cXa1 fXa0 fXa1 lXa hs
      by_cases hlt : k < n
      · have hk1 : (k : Int) < n := by omega
        have hbl := bsum_lt (depB n wsa) k
        have hpk : 2 ^ k ≤ 2 ^ 15 := Nat.pow_le_pow_right (by omega) (by omega)
        have hst := bsum_or (depB n wsa) k
        have hdp : (!decide (tab n (hfF k false wsa) = tab n (hfF k true wsa))) = depB n wsa k := rfl
        have HST := Lib.hid hst
        have HDP := Lib.hid hdp
        have HLK := Lib.hid hlt
        have hsw : IntKind.u64.wrap ((2 : Int) ^ k) = ((2 ^ k : Nat) : Int) := by
          rw [pow_int]
          generalize 2 ^ k = p at hpk
          exact IntWalk.u64_in _ (by omega)
        have hk0 : (0 : Int) ≤ k := by omega
        have hmk : min k 64 = k := by omega
        have hor := u64_or_nat (bsum (depB n wsa) k) (2 ^ k) (by omega) (by omega)
        rw [← pow_int k] at hor
        clear hst hdp
        generalize bsum (depB n wsa) k = bs at *
        have hfld := run_words
        go_upto_region 7 with fail
        refine wp_phS (fun _ => False) [([0, 1, 4, 5], 2), ([3], 6), ([7], 8), ([], 9)] (by kernel_rfl) (by kernel_rfl) ?_
        simp only [wpPh, pick, List.map_cons, List.map_nil, List.getD_cons_zero, List.getD_cons_succ]
        have hs : Same wr wr.drew := (Frm.refl _ _).drew
        repeat (any_goals (first | go_big_quiet_step (fail) | quiet_step (fail)))
        refine wpQuiet_nil ?_
        refine effStep_plain rfl fun K hK => ?_
        go_simp
        refine (half_any n k false Aa Ca wsa _ (H.out.same (HSr.out.trans hs (fun _ _ h => h))) HF.out HLK.out).mono ?_
        rintro e u ⟨A0, C0, rfl, hNT⟩
        have hs := hs.trans hNT.2.2 (fun _ _ h => h)
        have ho0 := hNT.1
        refine hK _ _ (Lat.mk_ (Frm.mono hs (fun _ _ h => h.elim))) ?_
        clear hK K hNT
        repeat (any_goals (first | go_big_quiet_step (fail) | quiet_step (fail)))
        refine wpQuiet_nil ?_
        refine effStep_plain rfl fun K hK => ?_
        go_simp
        refine (half_any n k true Aa Ca wsa _ (H.out.same (HSr.out.trans hs (fun _ _ h => h))) HF.out HLK.out).mono ?_
        rintro e u ⟨A1, C1, rfl, hNT⟩
        have hs := hs.trans hNT.2.2 (fun _ _ h => h)
        have ho0 := Own.frm ho0 hNT.2.2 (fun _ _ => id)
        have ho1 := hNT.1
        refine hK _ _ (Lat.mk_ (Frm.mono hs (fun _ _ h => h.elim))) ?_
        clear hK K hNT
        repeat (any_goals (first | go_big_quiet_step (fail) | quiet_step (fail)))
        refine wpQuiet_nil ?_
        refine effStep_plain rfl fun K hK => ?_
        go_simp
        refine (equalW_any A0 _ C0 _ A1 _ C1 _ _ (ho0.sl ucell_len) (ho1.sl ucell_len) (tab_len_le hn)).mono ?_
        rintro e u ⟨rfl, hsz⟩
        have hs := hs.trans hsz (fun _ _ h => h)
        have hdd := HDP.out
        refine hK _ _ (Lat.mk_ (Frm.mono hs (fun _ _ h => h.elim))) ?_
        generalize decide (tab n (hfF k false wsa) = tab n (hfF k true wsa)) = dd at *
        have HDD := Lib.hid hdd
        clear hK K hsz ho0 ho1 hdd
        have HSN := Lib.hid (HS0.out.trans hs (fun _ _ h => h))
        have hBX := HBr.out.frm hs id
        clear hs
        cases dd
        · have hd : depB n wsa k = true := HDD.out.symm
          rw [hd, if_pos rfl] at HST
          refine wpQuiet_nil ?_
          go_wp2
          go_roundw
          case rel => exact ⟨k + 1, by omega, by go_num, by rw [← HST.out], HSN.out⟩
          case measure => simp [intOf] <;> omega
        · have hd : depB n wsa k = false := HDD.out.symm
          rw [hd, if_neg (by decide), Nat.or_zero] at HST
          refine wpQuiet_nil ?_
          go_wp2
          go_roundw
          case rel => exact ⟨k + 1, by omega, by go_num, by rw [← HST.out], HSN.out⟩
          case measure => simp [intOf] <;> omega
      · obtain rfl : k = n := by omega
        rw [HPF.out]
        go_wp2
        go_ret2
        exact ⟨rfl, HSr.out⟩
end Go.Proofs.Ytjgndclfbcijmaa


/- Truth tables: Support of the reference; TruthTells: the walk. -/
namespace Go.Proofs.Ytjgndclfbcijmaa
open Go.RowKit Go.Tk

end Go.Proofs.Ytjgndclfbcijmaa


/- Truth tables: TruthTells: the walk. -/
namespace Go.Proofs.Ytjgndclfbcijmaa
open Go.RowKit Go.Tk

end Go.Proofs.Ytjgndclfbcijmaa


/- Truth tables: not and two of the law. -/
namespace Go.Proofs.Ytjgndclfbcijmaa
open Go.RowKit Go.Tk

end Go.Proofs.Ytjgndclfbcijmaa


/- Truth tables: what TruthShannon asks, plain. -/
namespace Go.Tk

theorem cntB_countP (F : Nat → Bool) : ∀ m, cntB F m = (List.range m).countP F
  | 0 => rfl
  | m + 1 => by
    rw [cntB, cntB_countP F m, List.range_succ, List.countP_append, List.countP_singleton]
theorem cntB_perm {F : Nat → Bool} {M : Nat} {σ : Nat → Nat} (h : ∀ i, i < M → σ i < M) (inj : ∀ i j, i < M → j < M → σ i = σ j → i = j) : cntB (fun i => F (σ i)) M = cntB F M := by
  have hnd : ((List.range M).map σ).Nodup := by
    rw [List.nodup_iff_pairwise_ne, List.pairwise_map]
    refine (List.nodup_iff_pairwise_ne.1 (List.nodup_range (n := M))).imp_of_mem fun ha hb hne he => ?_
    exact hne (inj _ _ (List.mem_range.1 ha) (List.mem_range.1 hb) he)
  have hp := sub_perm ((List.range M).map σ) (List.range M) hnd (fun x hx => by
    obtain ⟨i, hi, rfl⟩ := List.mem_map.1 hx
    exact List.mem_range.2 (h i (List.mem_range.1 hi))) (by simp)
  rw [cntB_countP, cntB_countP, hp.countP_eq F, List.countP_map]
  rfl
theorem cntB_sum {a b c d : Nat → Bool} : ∀ {m}, (∀ i, i < m → (a i).toNat + (b i).toNat = (c i).toNat + (d i).toNat) → cntB a m + cntB b m = cntB c m + cntB d m
  | 0, _ => rfl
  | m + 1, h => by
    have ih := cntB_sum (m := m) fun i hi => h i (by omega)
    have h1 := h m (by omega)
    have e : ∀ F : Nat → Bool, cntB F (m + 1) = cntB F m + (F m).toNat := fun F => by rw [cntB]; cases F m <;> rfl
    rw [e, e, e, e]
    omega
theorem wth_self (i v : Nat) : wth i v (i.testBit v) = i := (wth_of fun j => by
  by_cases h : j = v
  · subst h; simp
  · simp [h]).symm
theorem wth_twice (i v : Nat) (b c : Bool) : wth (wth i v b) v c = wth i v c := wth_of fun j => by
  rw [wth_bit, wth_bit]
  by_cases h : j = v <;> simp [h]
theorem wth_comm {i u v : Nat} {b c : Bool} (h : u ≠ v) : wth (wth i u b) v c = wth (wth i v c) u b := wth_of fun j => by
  rw [wth_bit, wth_bit, wth_bit]
  by_cases h1 : j = v
  · subst h1
    simp [Ne.symm h]
  · simp [h1]
theorem mask_sub {F G : Nat → Bool} {n V : Nat} (hn : n ≤ 64) (h : ∀ u, u < n → F u = true → G u = true ∧ u ≠ V) :
    bsum F n &&& (18446744073709551615 - (bsum G n &&& (18446744073709551615 - 2 ^ V % 18446744073709551616))) = 0 := by
  have hG : bsum G n < 18446744073709551616 := Nat.lt_of_lt_of_le (bsum_lt G n) (show 2 ^ n ≤ 2 ^ 64 from Nat.pow_le_pow_right (by omega) hn)
  have hp : 2 ^ V % 18446744073709551616 < 18446744073709551616 := Nat.mod_lt _ (by omega)
  have hx : bsum G n &&& (18446744073709551615 - 2 ^ V % 18446744073709551616) < 18446744073709551616 := Nat.lt_of_le_of_lt Nat.and_le_left hG
  apply Nat.eq_of_testBit_eq
  intro j
  rw [Nat.testBit_and, bsum_bit, Nat.zero_testBit]
  by_cases hj : j < n
  · cases hF : F j with
    | false => simp
    | true =>
      obtain ⟨h1, h2⟩ := h j hj hF
      have hj64 : j < 64 := by omega
      rw [not64_bit hx hj64, Nat.testBit_and, bsum_bit, not64_bit hp hj64, show (18446744073709551616 : Nat) = 2 ^ 64 by decide, Nat.testBit_mod_two_pow, Nat.testBit_two_pow]
      simp [hj, h1, Ne.symm h2]
  · simp [hj]
end Go.Tk
namespace Go.Proofs.Ytjgndclfbcijmaa
open Go.RowKit Go.Tk

theorem depB_eq {n : Nat} {ws : List Nat} {u : Nat} (h : depB n ws u = false) {i : Nat} (hi : i < 2 ^ n) : vb ws (wth i u false) = vb ws (wth i u true) := by
  by_cases hne : vb ws (wth i u false) = vb ws (wth i u true)
  · exact hne
  · have := depB_true (n := n) (ws := ws) (v := u) hi hne
    rw [h] at this
    cases this
theorem dep_cof {n V u : Nat} {b : Bool} {ws : List Nat} (hV : V < n) (hu : u < n) (h : depB n (tab n (hfF V b ws)) u = true) : depB n ws u = true ∧ u ≠ V := by
  by_cases huV : u = V
  · subst huV
    rw [depB_false] at h
    · cases h
    · intro i hi
      unfold hfF
      rw [vb_tab (wth_lt hi hu), vb_tab (wth_lt hi hu), wth_twice, wth_twice]
  · refine ⟨?_, huV⟩
    cases hd : depB n ws u with
    | true => rfl
    | false =>
      rw [depB_false] at h
      · cases h
      · intro i hi
        show vb (tab n (hfF V b ws)) (wth i u false) = vb (tab n (hfF V b ws)) (wth i u true)
        rw [vb_tab (wth_lt hi hu), vb_tab (wth_lt hi hu)]
        unfold hfF
        rw [wth_comm huV, wth_comm huV]
        exact depB_eq hd (wth_lt hi hV)
theorem dep_ex {n V u : Nat} {ws : List Nat} (hV : V < n) (hu : u < n) (h : depB n (tab n (exF V ws)) u = true) : depB n ws u = true ∧ u ≠ V := by
  by_cases huV : u = V
  · subst huV
    rw [depB_false] at h
    · cases h
    · intro i hi
      show vb (tab n (exF u ws)) (wth i u false) = vb (tab n (exF u ws)) (wth i u true)
      rw [vb_tab (wth_lt hi hu), vb_tab (wth_lt hi hu)]
      unfold exF hfF
      rw [wth_twice, wth_twice, wth_twice, wth_twice]
  · refine ⟨?_, huV⟩
    cases hd : depB n ws u with
    | true => rfl
    | false =>
      rw [depB_false] at h
      · cases h
      · intro i hi
        show vb (tab n (exF V ws)) (wth i u false) = vb (tab n (exF V ws)) (wth i u true)
        rw [vb_tab (wth_lt hi hu), vb_tab (wth_lt hi hu)]
        unfold exF hfF
        rw [wth_comm (b := false) (c := false) huV, wth_comm (b := false) (c := true) huV, wth_comm (b := true) (c := false) huV, wth_comm (b := true) (c := true) huV, depB_eq hd (wth_lt (b := false) hi hV), depB_eq hd (wth_lt (b := true) hi hV)]
theorem shan_ite {n V : Nat} {ws : List Nat} (hf : FormN n ws) (hb : Small ws) : tab n (iteF (tab n (varF V)) (tab n (hfF V true ws)) (tab n (hfF V false ws))) = ws := by
  refine Eq.trans (tab_congr fun i hi => ?_) (tab_vb hf hb)
  unfold iteF
  rw [vb_tab hi, vb_tab hi, vb_tab hi]
  unfold varF hfF
  conv => rhs; rw [← wth_self i V]
  cases i.testBit V <;> rfl
theorem shan_or {n V : Nat} {ws : List Nat} : tab n (binF 14 (tab n (hfF V true ws)) (tab n (hfF V false ws))) = tab n (exF V ws) := tab_congr fun i hi => by
  unfold binF exF
  rw [vb_tab hi, vb_tab hi]
  cases hfF V true ws i <;> cases hfF V false ws i <;> decide
theorem shan_cnt {n V : Nat} {ws : List Nat} (hV : V < n) : cntB (vb (tab n (hfF V true ws))) (2 ^ n) + cntB (vb (tab n (hfF V false ws))) (2 ^ n) = 2 * cntB (vb ws) (2 ^ n) := by
  have hσ : cntB (fun i => vb ws (wth i V (!i.testBit V))) (2 ^ n) = cntB (vb ws) (2 ^ n) := cntB_perm (σ := fun i => wth i V (!i.testBit V)) (fun i hi => wth_lt hi hV) (fun i j _ _ h => by
    have h' : wth i V (!i.testBit V) = wth j V (!j.testBit V) := h
    apply Nat.eq_of_testBit_eq
    intro t
    have ht := congrArg (fun x => x.testBit t) h'
    have hv := congrArg (fun x => x.testBit V) h'
    simp only [wth_bit, if_true] at ht hv
    by_cases htV : t = V
    · subst htV
      simpa using hv
    · simpa [htV] using ht)
  rw [cntB_congr (F := vb (tab n (hfF V true ws))) (fun j hj => vb_tab hj), cntB_congr (F := vb (tab n (hfF V false ws))) (fun j hj => vb_tab hj)]
  have := cntB_sum (a := hfF V true ws) (b := hfF V false ws) (c := vb ws) (d := fun i => vb ws (wth i V (!i.testBit V))) (m := 2 ^ n) fun i _ => by
    unfold hfF
    conv => rhs; rw [← wth_self i V]
    rw [wth_bit, if_pos rfl, wth_twice]
    cases i.testBit V
    · simp only [Bool.not_false]; omega
    · simp only [Bool.not_true]
  omega
end Go.Proofs.Ytjgndclfbcijmaa


/- Truth tables: renaming, plain. -/
namespace Go.Tk

def pv (p : List Int) (v : Nat) : Nat := (p.getD v 0).toNat
theorem pv_get {p : List Int} {v : Nat} {x : Int} (h : p[v]? = some x) : pv p v = x.toNat := by unfold pv; rw [List.getD_eq_getElem?_getD, h]; rfl
/-- a permutation of n things -/
structure PermN (n : Nat) (p : List Int) : Prop where
  len : p.length = n
  perm : IsPerm p
theorem PermN.lt {n : Nat} {p : List Int} (h : PermN n p) {v : Nat} (hv : v < n) : pv p v < n := by
  have hg : p[v]? = some p[v]! := by
    rw [List.getElem?_eq_getElem (by rw [h.len]; exact hv)]
    simp [List.getElem!_eq_getElem?_getD, List.getElem?_eq_getElem (show v < p.length by rw [h.len]; exact hv)]
  rw [pv_get hg]
  have := h.perm.1 _ (List.mem_of_getElem? hg)
  have := h.len
  omega
theorem PermN.inj {n : Nat} {p : List Int} (h : PermN n p) {u v : Nat} (hu : u < n) (hv : v < n) (he : pv p u = pv p v) : u = v := by
  have hul : u < p.length := by rw [h.len]; exact hu
  have hvl : v < p.length := by rw [h.len]; exact hv
  rw [pv_get (List.getElem?_eq_getElem hul), pv_get (List.getElem?_eq_getElem hvl)] at he
  have h1 := h.perm.1 _ (List.getElem_mem hul)
  have h2 := h.perm.1 _ (List.getElem_mem hvl)
  have hpw := List.pairwise_iff_getElem.1 (List.nodup_iff_pairwise_ne.1 h.perm.2)
  rcases Nat.lt_trichotomy u v with h3 | h3 | h3
  · exact absurd (show p[u] = p[v] by omega) (hpw u v hul hvl h3)
  · exact h3
  · exact absurd (show p[v] = p[u] by omega) (hpw v u hvl hul h3)
theorem PermN.onto {n : Nat} {p : List Int} (h : PermN n p) {t : Nat} (ht : t < n) : ∃ v, v < n ∧ pv p v = t := by
  obtain ⟨v, hv⟩ := List.getElem?_of_mem (h.perm.mem (show t < p.length by rw [h.len]; exact ht))
  exact ⟨v, by have := lt_get hv; rw [h.len] at this; exact this, by rw [pv_get hv]; omega⟩
/-- the place of the value j, after k variables -/
def sg (p : List Int) (j : Nat) : Nat → Nat
  | 0 => 0
  | k + 1 => wth (sg p j k) (pv p k) (j.testBit k)
theorem sg_bits {n : Nat} {p : List Int} (h : PermN n p) (j : Nat) : ∀ k, k ≤ n → (∀ v, v < k → (sg p j k).testBit (pv p v) = j.testBit v) ∧ (∀ t, (∀ v, v < k → pv p v ≠ t) → (sg p j k).testBit t = false)
  | 0, _ => ⟨fun v hv => by omega, fun t _ => by simp [sg]⟩
  | k + 1, hk => by
    obtain ⟨h1, h2⟩ := sg_bits h j k (by omega)
    refine ⟨fun v hv => ?_, fun t ht => ?_⟩
    · rw [sg, wth_bit]
      by_cases hvk : v = k
      · subst hvk; rw [if_pos rfl]
      · rw [if_neg (fun he => hvk (h.inj (by omega) (by omega) he)), h1 v (by omega)]
    · rw [sg, wth_bit, if_neg (fun he => ht k (by omega) he.symm)]
      exact h2 t fun v hv => ht v (by omega)
theorem sg_or {n : Nat} {p : List Int} (h : PermN n p) (j : Nat) {k : Nat} (hk : k < n) : sg p j k ||| (j / 2 ^ k % 2) * 2 ^ pv p k = sg p j (k + 1) := by
  have h0 : (sg p j k).testBit (pv p k) = false := (sg_bits h j k (by omega)).2 _ fun v hv he => by have := h.inj (by omega) hk he; omega
  have hb : j.testBit k = decide (j / 2 ^ k % 2 = 1) := by rw [Nat.testBit_eq_decide_div_mod_eq]
  rw [sg]
  refine wth_of fun t => ?_
  rw [Nat.testBit_or, hb]
  rcases Nat.mod_two_eq_zero_or_one (j / 2 ^ k) with hz | hz
  · rw [hz]
    by_cases ht : t = pv p k
    · subst ht; simp [h0]
    · simp [ht]
  · rw [hz, Nat.one_mul, Nat.testBit_two_pow]
    by_cases ht : t = pv p k
    · subst ht; simp [h0]
    · simp [ht, Ne.symm ht]
theorem sg_lt {n : Nat} {p : List Int} (h : PermN n p) (j : Nat) : ∀ k, k ≤ n → sg p j k < 2 ^ n := fun k hk => Nat.lt_pow_two_of_testBit _ fun t ht => (sg_bits h j k hk).2 t fun v hv he => by have := h.lt (v := v) (by omega); omega
/-- the value at the place i -/
def tau (n : Nat) (p : List Int) (i : Nat) : Nat := bsum (fun v => i.testBit (pv p v)) n
theorem tau_sg {n : Nat} {p : List Int} (h : PermN n p) {j : Nat} (hj : j < 2 ^ n) : tau n p (sg p j n) = j := by
  unfold tau
  rw [bsum_congr (G := fun v => j.testBit v) fun v hv => (sg_bits h j n (Nat.le_refl _)).1 v hv]
  exact bsum_of hj
theorem sg_tau {n : Nat} {p : List Int} (h : PermN n p) {i : Nat} (hi : i < 2 ^ n) : sg p (tau n p i) n = i := by
  apply Nat.eq_of_testBit_eq
  intro t
  by_cases ht : t < n
  · obtain ⟨v, hv, rfl⟩ := h.onto ht
    rw [(sg_bits h (tau n p i) n (Nat.le_refl _)).1 v hv]
    unfold tau
    rw [bsum_bit]
    simp [hv]
  · have h1 : i.testBit t = false := Nat.testBit_lt_two_pow (Nat.lt_of_lt_of_le hi (Nat.pow_le_pow_right (by omega) (by omega)))
    have h2 : (sg p (tau n p i) n).testBit t = false := Nat.testBit_lt_two_pow (Nat.lt_of_lt_of_le (sg_lt h _ n (Nat.le_refl _)) (Nat.pow_le_pow_right (by omega) (by omega)))
    rw [h1, h2]
/-- what is renamed of the values below k -/
def renP (n : Nat) (p : List Int) (ws : List Nat) (k : Nat) : Nat → Bool := fun i => decide (tau n p i < k) && vb ws (tau n p i)
def renF (n : Nat) (p : List Int) (ws : List Nat) : Nat → Bool := fun i => vb ws (tau n p i)
theorem renP_full {n : Nat} {p : List Int} {ws : List Nat} (i : Nat) : renP n p ws (2 ^ n) i = renF n p ws i := by
  unfold renP renF
  have : tau n p i < 2 ^ n := bsum_lt _ n
  simp [this]
theorem renP_zero {n : Nat} {p : List Int} {ws : List Nat} (i : Nat) : renP n p ws 0 i = false := by
  unfold renP
  simp
theorem renP_at {n : Nat} {p : List Int} {ws : List Nat} (h : PermN n p) {k : Nat} (hk : k < 2 ^ n) : renP n p ws (k + 1) (sg p k n) = vb ws k ∧ renP n p ws k (sg p k n) = false := by
  unfold renP
  rw [tau_sg h hk]
  simp
theorem renP_other {n : Nat} {p : List Int} {ws : List Nat} (h : PermN n p) {k i : Nat} (hi : i < 2 ^ n) (hne : i ≠ sg p k n) : renP n p ws (k + 1) i = renP n p ws k i := by
  unfold renP
  have : tau n p i ≠ k := fun he => hne (by rw [← he, sg_tau h hi])
  congr 1
  rw [decide_eq_decide]
  omega
theorem ren_set {n : Nat} {p : List Int} {ws : List Nat} (h : PermN n p) {k : Nat} (hk : k < 2 ^ n) : (vals (2 ^ n) (renP n p ws k)).set (sg p k n) (vb ws k) = vals (2 ^ n) (renP n p ws (k + 1)) := by
  have hs := sg_lt h k n (Nat.le_refl _)
  apply List.ext_getElem?
  intro i
  rcases Nat.lt_or_ge i (2 ^ n) with hi | hi
  · rw [List.getElem?_set, vals_len, vals_get hi, vals_get hi]
    split
    · rename_i he; subst he; simp [(renP_at h hk).1]
    · rename_i he
      rw [renP_other h hi (Ne.symm he)]
  · rw [List.getElem?_eq_none (by simp [vals_len, hi]), List.getElem?_eq_none (by rw [vals_len]; exact hi)]
theorem ren_word {n : Nat} {p : List Int} {ws : List Nat} (h : PermN n p) {k : Nat} (hk : k < 2 ^ n) : (tab n (renP n p ws k)).set (sg p k n / 64) (word n (renP n p ws k) (sg p k n / 64) ||| (if vb ws k then 1 else 0) * 2 ^ (sg p k n % 64)) = tab n (renP n p ws (k + 1)) := by
  have hs := sg_lt h k n (Nat.le_refl _)
  have hd := div_lt_nw hs
  have hm := Nat.mod_lt (sg p k n) (show 0 < 64 by omega)
  have hdm := Nat.div_add_mod (sg p k n) 64
  obtain ⟨ha1, ha0⟩ := renP_at (ws := ws) h hk
  have hoth := fun i (hi : i < 2 ^ n) (hne : i ≠ sg p k n) => renP_other (ws := ws) h hi hne
  generalize sg p k n = s at *
  generalize renP n p ws (k + 1) = G at *
  generalize renP n p ws k = F at *
  apply List.ext_getElem?
  intro q
  rcases Nat.lt_or_ge q (nw n) with hq | hq
  · rw [List.getElem?_set, tab_len, tab_get hq, tab_get hq]
    split
    · rename_i he
      subst he
      congr 1
      apply Nat.eq_of_testBit_eq
      intro j
      by_cases hj : j < 64
      · rw [Nat.testBit_or, word_bit _ _ _ hj, word_bit _ _ _ hj]
        by_cases hjs : j = s % 64
        · subst hjs
          rw [hdm, ha1, ha0]
          cases vb ws k <;> simp [hs]
        · have hb : ((if vb ws k then 1 else 0) * 2 ^ (s % 64)).testBit j = false := by
            cases vb ws k
            · simp
            · simp only [if_true, Nat.one_mul, Nat.testBit_two_pow]
              simp [Ne.symm hjs]
          rw [hb, Bool.or_false]
          by_cases hlt : 64 * (s / 64) + j < 2 ^ n
          · rw [hoth _ hlt (by omega)]
          · simp [hlt]
      · have h1 : (word n G (s / 64)).testBit j = false := Nat.testBit_lt_two_pow (Nat.lt_of_lt_of_le (word_lt _ _ _) (Nat.pow_le_pow_right (show 0 < 2 by omega) (show 64 ≤ j by omega)))
        have h2 : (word n F (s / 64)).testBit j = false := Nat.testBit_lt_two_pow (Nat.lt_of_lt_of_le (word_lt _ _ _) (Nat.pow_le_pow_right (show 0 < 2 by omega) (show 64 ≤ j by omega)))
        have h3 : ((if vb ws k then 1 else 0) * 2 ^ (s % 64)).testBit j = false := by
          cases vb ws k
          · simp
          · simp only [if_true, Nat.one_mul, Nat.testBit_two_pow]
            simp
            omega
        rw [Nat.testBit_or, h1, h2, h3]
        rfl
    · rename_i he
      refine congrArg some (word_congr' fun j hj hlt => ?_)
      exact (hoth _ hlt (by omega)).symm
  · rw [List.getElem?_eq_none (by simp [tab_len, hq]), List.getElem?_eq_none (by rw [tab_len]; exact hq)]
end Go.Tk


/- WholeTruth: plain. -/
namespace Go.Proofs.Ytjgndclfbcijmaa
open Go.RowKit Go.Tk

/-- a word of the table that is laid out of any words -/
def tblW (n : Nat) (us : List Nat) (i : Nat) : Nat := (us.getD (i % us.length) 0) % (if n < 6 then 2 ^ 2 ^ n else 18446744073709551616)
def tabW (n : Nat) (us : List Nat) : List Nat := (List.range (nw n)).map (tblW n us)
theorem tabW_len (n : Nat) (us : List Nat) : (tabW n us).length = nw n := by simp [tabW]
theorem tabW_get {n : Nat} {us : List Nat} {k : Nat} (h : k < nw n) : (tabW n us)[k]? = some (tblW n us k) := by simp [tabW, h]
theorem tblW_lt (n : Nat) (us : List Nat) (i : Nat) : tblW n us i < 18446744073709551616 := by
  unfold tblW
  by_cases h : n < 6
  · rw [if_pos h]
    have h1 : 2 ^ n ≤ 2 ^ 5 := Nat.pow_le_pow_right (by omega) (by omega)
    have h2 : (2 : Nat) ^ 2 ^ n ≤ 2 ^ 32 := Nat.pow_le_pow_right (by omega) (by omega)
    exact Nat.lt_of_lt_of_le (Nat.mod_lt _ (Nat.pow_pos (by omega))) (by omega)
  · rw [if_neg h]; exact Nat.mod_lt _ (by omega)
theorem tabW_small (n : Nat) (us : List Nat) : Small (tabW n us) := fun x hx => by
  obtain ⟨k, _, rfl⟩ := List.mem_map.1 hx
  exact tblW_lt n us k
theorem tabW_form {n : Nat} (hn : n ≤ 16) (us : List Nat) : FormN n (tabW n us) := by
  refine ⟨hn, tabW_len n us, fun h6 => ?_⟩
  rw [List.getD_eq_getElem?_getD, tabW_get (nw_pos n), Option.getD_some]
  unfold tblW
  rw [if_pos h6]
  exact Nat.mod_lt _ (Nat.pow_pos (by omega))
theorem or_comm_tab {n V : Nat} {ws : List Nat} : tab n (binF 14 (tab n (hfF V false ws)) (tab n (hfF V true ws))) = tab n (exF V ws) := tab_congr fun i hi => by
  unfold binF exF
  rw [vb_tab hi, vb_tab hi]
  cases hfF V true ws i <;> cases hfF V false ws i <;> decide
theorem sm_comm (n m : Int) (a b : List Nat) : sm n m a b = sm m n b a := by
  unfold sm
  by_cases h : a = b
  · subst h; by_cases h2 : n = m
    · subst h2; rfl
    · have := Ne.symm h2; simp [h2, this]
  · have h3 : ¬ b = a := fun e => h e.symm
    simp [h, h3]
theorem ren_at {n : Nat} {p : List Int} {ws : List Nat} (h : PermN n p) {x : Nat} (hx : x < 2 ^ n) : vb (tab n (renF n p ws)) (sg p x n) = vb ws x := by
  rw [vb_tab (sg_lt h x n (Nat.le_refl _))]
  unfold renF
  rw [tau_sg h hx]
/-- the bit of an operation -/
def bitO (op : Nat) (p q : Bool) : Bool := op.testBit ((if p then 2 else 0) + (if q then 1 else 0))
theorem bin_at {n op : Nat} {a b : List Nat} {x : Nat} (hx : x < 2 ^ n) : vb (tab n (binF op a b)) x = bitO op (vb a x) (vb b x) := by
  rw [vb_tab hx]; rfl
end Go.Proofs.Ytjgndclfbcijmaa


/- Truth tables: TruthShannon: the walk. -/
namespace Go.Proofs.Ytjgndclfbcijmaa
open Go.RowKit Go.Tk

/-- a table that lies in a block -/
structure Tv (w : World) (T : Nat) (n : Int) (A : Option Addr) (C : Nat) (ws : List Nat) : Prop where
  blk : Blk w T 30 #[.int .i64 n, .slice A ws.length C]
  wl : WL w A ws.length ws
theorem Tv.same {w w' : World} {T : Nat} {n : Int} {A : Option Addr} {C : Nat} {ws : List Nat} (h : Tv w T n A C ws) (hs : Same w w') : Tv w' T n A C ws := ⟨h.blk.frm hs id, Sl.same h.wl hs⟩
theorem Tv.make {w w' : World} {n : Int} {A : Option Addr} {C : Nat} {ws : List Nat} (h : WL w A ws.length ws) (hw : w' = w.alloc (.cells #[.int .i64 n, .slice A ws.length C] 30)) : Tv w' w.heap.size n A C ws ∧ Same w w' := by
  subst hw
  have hs : Same w (w.alloc (.cells #[.int .i64 n, .slice A ws.length C] 30)) := (Frm.refl _ _).alloc _
  exact ⟨⟨Blk.new w _ _, Sl.same h hs⟩, hs⟩
theorem sup_bit {n V : Nat} {ws : List Nat} (hV : V < n) : (bsum (depB n ws) n).testBit V = !sm n n (tab n (hfF V true ws)) (tab n (hfF V false ws)) := by
  rw [bsum_bit, decide_eq_true hV, Bool.true_and]
  unfold depB sm
  generalize tab n (hfF V true ws) = a
  generalize tab n (hfF V false ws) = b
  by_cases he : a = b
  · subst he; simp
  · have he2 : ¬ b = a := fun h => he h.symm
    simp [he, he2]
theorem tab_small (n : Nat) (F : Nat → Bool) : Small (tab n F) := fun x hx => tab_lt x hx
end Go.Proofs.Ytjgndclfbcijmaa


/- Permutations: Check and both of the program; place, DocCheck and worse of the reference. -/
namespace Go.Proofs.Ytjgndclfbcijmaa
open Go.RowKit Go.Tk

theorem info_int : (Try.prog.info? 3).map (fun i => (i.zero, i.size, i.bytes)) = some (some (.int .i64 0), 1, 8) := by kernel_rfl

/-- which numbers stand among the first k -/
def seenL (xs : List Int) (k n : Nat) : List Bool := (List.range n).map fun j : Nat => decide ((j : Int) ∈ xs.take k)
theorem seenL_len (xs : List Int) (k n : Nat) : (seenL xs k n).length = n := by simp [seenL]
theorem seenL_get (xs : List Int) (k : Nat) {n j : Nat} (h : j < n) : (seenL xs k n)[j]? = some (decide ((j : Int) ∈ xs.take k)) := by simp [seenL, h]
theorem seenL_zero (xs : List Int) (n : Nat) : seenL xs 0 n = List.replicate n false := by
  apply List.ext_getElem?
  intro j
  rcases Nat.lt_or_ge j n with h | h
  · rw [seenL_get xs 0 h]; simp [h]
  · rw [List.getElem?_eq_none (by rw [seenL_len]; exact h), List.getElem?_eq_none (by simpa using h)]
theorem take_snoc {α : Type} {xs : List α} {k : Nat} {x : α} (h : xs[k]? = some x) : xs.take (k + 1) = xs.take k ++ [x] := by
  have hl := lt_of_get h
  rw [List.getElem?_eq_getElem hl] at h
  injection h with h
  rw [List.take_succ_eq_append_getElem hl, h]
theorem seenL_set {xs : List Int} {k n : Nat} {x : Nat} (h : xs[k]? = some (x : Int)) (hx : x < n) : (seenL xs k n).set x true = seenL xs (k + 1) n := by
  apply List.ext_getElem?
  intro j
  rcases Nat.lt_or_ge j n with hj | hj
  · rw [seenL_get xs (k + 1) hj, List.getElem?_set, seenL_len, seenL_get xs k hj, take_snoc h]
    split
    · rename_i he; subst he; simp
    · rename_i hne
      congr 1
      have : ¬ ((j : Int) = (x : Int)) := by omega
      simp [this]
  · rw [List.getElem?_eq_none (by simp [seenL_len, hj]), List.getElem?_eq_none (by rw [seenL_len]; exact hj)]
/-- the first k things are in order -/
def Good (xs : List Int) (k : Nat) : Prop := (∀ x, x ∈ xs.take k → 0 ≤ x ∧ x < xs.length) ∧ (xs.take k).Nodup
theorem Good.next {xs : List Int} {k : Nat} {x : Int} (h : Good xs k) (hx : xs[k]? = some x) (h0 : 0 ≤ x) (h1 : x < xs.length) (hn : x ∉ xs.take k) : Good xs (k + 1) := by
  unfold Good
  rw [take_snoc hx]
  refine ⟨fun y hy => ?_, ?_⟩
  · rcases List.mem_append.1 hy with hy | hy
    · exact h.1 y hy
    · simp at hy; subst hy; exact ⟨h0, h1⟩
  · rw [List.nodup_append]
    exact ⟨h.2, by simp, fun a ha b hb => by simp at hb; subst hb; rintro rfl; exact hn ha⟩
theorem not_perm_range {xs : List Int} {k : Nat} {x : Int} (hx : xs[k]? = some x) (h : x < 0 ∨ (xs.length : Int) ≤ x) : chk xs = 4 := by
  unfold chk
  rw [if_neg]
  rintro ⟨h1, _⟩
  have := h1 x (List.mem_of_getElem? hx)
  omega
theorem not_perm_dup {xs : List Int} {k : Nat} {x : Int} (hx : xs[k]? = some x) (h : x ∈ xs.take k) : chk xs = 4 := by
  unfold chk
  rw [if_neg]
  rintro ⟨_, h2⟩
  have h3 : (xs.take (k + 1)).Nodup := h2.sublist (List.take_sublist _ _)
  rw [take_snoc hx, List.nodup_append] at h3
  exact h3.2.2 x h x (by simp) rfl
theorem good_all {xs : List Int} (h : Good xs xs.length) : IsPerm xs := by
  unfold Good at h
  rw [List.take_length] at h
  exact h

set_option maxHeartbeats 1000000 in
theorem check_any (A : Option Addr) (n C : Nat) (xs : List Int) (w : World) (h : IL w A n xs) (hr : n * 8 ≤ 140737488351232) :
    Calls Try.prog 18 #[.slice A n C] w fun e w' => e = .returned (.int .i64 (chk xs)) ∧ Same w w' := by
  obtain rfl := h.len
  have hmk := fun w => run_make_n (P := Try.prog) Try.underlying56 info_bool .i64 .i64 xs.length (show 1 * xs.length ≤ 281474976710656 by omega) (show xs.length ≤ 9223372036854775807 by omega) w
  have hs1 : ∀ cs, Same w (w.alloc (.cells cs 4)) := fun cs => (Frm.refl _ _).alloc _
  have hO := Own.ofMade (m := 1) w 4 (fun b : Bool => [.bool b]) (fun _ => rfl) (by decide) false xs.length (show xs.length ≤ 9223372036854775807 by omega) rfl
  rw [← seenL_zero xs] at hO
  have H := Lib.hid h
  have HO := Lib.hid hO
  clear h hO
  go_enter Try.func18, Try.ntmps18
  go_wp2
  go_loopw [11] (fun i wr => ∃ k : Nat, k ≤ xs.length ∧ i = .int .i64 k ∧ Good xs k ∧ Same w wr ∧ Row1 wr 4 (fun b : Bool => .bool b) (some ⟨w.heap.size, 0, none⟩) xs.length xs.length (seenL xs k xs.length)) (fun i _ => xs.length - (intOf i).toNat)
  case atStart => exact ⟨0, by omega, rfl, ⟨by simp, by simp⟩, hs1 _, by simpa using HO.out⟩
  case round =>
    obtain ⟨k, hk, rfl, hg, hs, ho⟩ := hrel
    clear hmk hs1 HO
    by_cases hlt : k < xs.length
    · obtain ⟨x, hx⟩ : ∃ x, xs[k]? = some x := ⟨_, List.getElem?_eq_getElem hlt⟩
      obtain ⟨b, off, rfl, hb, hc⟩ := (H.out.same hs).at1 hx
      have hi0 : (0 : Int) ≤ k := by omega
      have hi1 : (k : Int) < xs.length := by omega
      have HG := Lib.hid hg
      have HX := Lib.hid hx
      have HS := Lib.hid hs
      have HR := Lib.hid ho
      clear hg hx hs ho
      by_cases h0 : x < 0
      · go_wp2
        go_ret
        exact ⟨ret_int (not_perm_range HX.out (.inl h0)).symm, HS.out⟩
      · by_cases h1 : x ≥ xs.length
        · go_wp2
          go_ret
          exact ⟨ret_int (not_perm_range HX.out (.inr h1)).symm, HS.out⟩
        · obtain ⟨y, rfl⟩ := Int.eq_ofNat_of_zero_le (show 0 ≤ x by omega)
          have hyl : y < xs.length := by omega
          have hg := seenL_get xs k hyl
          obtain ⟨sb, hsb, hsl, hsc⟩ := HR.out.at1 hg
          injection hsb with hsb
          injection hsb with hsb
          subst hsb
          have hfr := Own.free HR.out y
          clear hg
          by_cases hd : (y : Int) ∈ xs.take k
          · have hd' : decide ((y : Int) ∈ xs.take k) = true := by simpa using hd
            rw [hd'] at hsc
            have HD := Lib.hid hd
            clear hd hd'
            go_wp2
            go_ret
            exact ⟨ret_int (not_perm_dup HX.out HD.out).symm, HS.out⟩
          · have hd' : decide ((y : Int) ∈ xs.take k) = false := by simpa using hd
            rw [hd'] at hsc
            have HD := Lib.hid hd
            clear hd hd'
            have hst := Own.put1 HR.out (i := y) (by rw [seenL_len]; exact hyl) true
            rw [seenL_set HX.out hyl] at hst
            have HST := Lib.hid hst
            clear hst
            go_wp2
            go_roundw
            case rel => exact ⟨k + 1, by omega, by go_num, HG.out.next HX.out (by omega) (by omega) HD.out, HS.out.setNew _ _ (Nat.le_refl _), HST.out⟩
            case measure => simp [intOf] <;> omega
    · obtain rfl : k = xs.length := by omega
      have HG := Lib.hid (good_all hg)
      clear hg ho
      by_cases h64 : 64 < xs.length
      · have h64' : (xs.length : Int) > 64 := by omega
        go_wp2
        go_ret
        exact ⟨ret_int (by unfold chk; rw [if_pos HG.out, if_pos h64]), hs⟩
      · have h64' : ¬ (xs.length : Int) > 64 := by omega
        go_wp2
        go_ret
        exact ⟨ret_int (by unfold chk; rw [if_pos HG.out, if_neg h64]), hs⟩
end Go.Proofs.Ytjgndclfbcijmaa


/- Permutations: lists that are answered; place, slices.Index, DocCheck, worse, slices.Clone. -/
namespace Go.Tk
open Go.RowKit
theorem Frm.same_app {w0 w wa wb : World} {A : Option Addr} {N C : Nat} (h : Frm (fun _ => False) w0 w) (ha : Frm (fun _ => False) w wa) (hg : wa.grownBy wb (Value.slice A N C).ownBlock) (hA : Fresh w0.heap.size A) : Frm (fun _ => False) w0 wb :=
  (h.trans ha (fun _ _ h => h)).grown hg (fun g hg => .inr (hA g (ownBlock_row.1 hg)))
theorem Same.app {w0 w wa wb : World} {A : Option Addr} {N C : Nat} (h : Same w0 w) (ha : Same w wa) (hg : wa.grownBy wb (Value.slice A N C).ownBlock) (hA : Fresh w0.heap.size A) : Same w0 wb := Frm.same_app h ha hg hA
theorem fresh_app {w0 w wa : World} {A : Option Addr} {N C g : Nat} (h : Same w0 w) (ha : Same w wa) (hA : Fresh w0.heap.size A) (hat : (Value.slice A N C).ownBlock = some g ∨ g = wa.heap.size) : Fresh w0.heap.size (some ⟨g, 0, none⟩) := by
  refine fresh_some ?_
  have := h.size
  have := ha.size
  rcases hat with h | h
  · exact hA g (ownBlock_row.1 h)
  · omega
theorem IL.src {w : World} {A : Option Addr} {n : Nat} {xs : List Int} (h : IL w A n xs) (hne : xs ≠ []) : ∃ ad, A = some ad ∧ ∀ j u, (xs.flatMap icell)[j]? = some u → w.cell? (ad.add j) = some u := by
  have h0 : 0 < xs.length := List.length_pos_iff.2 hne
  obtain ⟨b, off, rfl, _, _⟩ := h.at1 (List.getElem?_eq_getElem h0)
  refine ⟨_, rfl, fun j u hj => ?_⟩
  have hfl : ∀ l : List Int, l.flatMap icell = l.map (fun x => Value.int .i64 x) := by
    intro l
    induction l with
    | nil => rfl
    | cons x l ih => rw [List.flatMap_cons, ih]; rfl
  rw [hfl, List.getElem?_map] at hj
  cases hx : xs[j]? with
  | none => rw [hx] at hj; cases hj
  | some x =>
    rw [hx] at hj
    simp at hj
    subst hj
    obtain ⟨b', off', h1, _, h3⟩ := h.at1 hx
    injection h1 with h1
    injection h1 with h1 h2
    subst h1 h2
    have : (⟨b, off, none⟩ : Addr).add j = ⟨b, off + j, none⟩ := by unfold Addr.add; split <;> simp_all
    rw [this]
    exact h3
theorem IL.nil {w : World} {n : Nat} {xs : List Int} (h : IL w none n xs) : xs = [] := by
  cases xs with
  | nil => rfl
  | cons x xs =>
    obtain ⟨b, off, h1, _⟩ := h.at1 (i := 0) (x := x) rfl
    cases h1
end Go.Tk
namespace Go.Proofs.Ytjgndclfbcijmaa
open Go.RowKit Go.Tk

/-- a list of the call's own -/
def NewL (w : World) (ys : List Int) (A : Option Addr) (C : Nat) (w' : World) : Prop := OwnI w' 3 A ys.length C ys ∧ Fresh w.heap.size A ∧ Same w w'
def RetL (w : World) (ys : List Int) (e : Ending) (w' : World) : Prop := ∃ A C, e = .returned (.slice A ys.length C) ∧ NewL w ys A C w'
def RetE (w : World) (ys : List Int) (err : Int) (e : Ending) (w' : World) : Prop := ∃ A C, e = .returned (.tuple #[.slice A ys.length C, .int .i64 err]) ∧ NewL w ys A C w'
theorem NewL.nil (w : World) : NewL w [] none 0 w := ⟨Own.nil _ _ _ _, fresh_none _, Frm.refl _ _⟩
theorem NewL.nil' {w w' : World} (h : Same w w') : NewL w [] none 0 w' := ⟨Own.nil _ _ _ _, fresh_none _, h⟩

/-- 0 .. k-1, then noughts -/
def idL (n k : Nat) : List Int := (List.range n).map fun j : Nat => if j < k then (j : Int) else 0
theorem idL_len (n k : Nat) : (idL n k).length = n := by simp [idL]
theorem idL_zero (n : Nat) : idL n 0 = List.replicate n 0 := by
  apply List.ext_getElem?
  intro j
  rcases Nat.lt_or_ge j n with h | h
  · simp [idL, h]
  · rw [List.getElem?_eq_none (by rw [idL_len]; exact h), List.getElem?_eq_none (by simpa using h)]
theorem idL_full (n : Nat) : idL n n = rng n := by
  apply List.ext_getElem?
  intro j
  rcases Nat.lt_or_ge j n with h | h
  · rw [rng_get h]; simp [idL, h]
  · rw [List.getElem?_eq_none (by rw [idL_len]; exact h), List.getElem?_eq_none (by rw [rng_len]; exact h)]
theorem idL_set {n k : Nat} (_h : k < n) : (idL n k).set k (k : Int) = idL n (k + 1) := by
  apply List.ext_getElem?
  intro j
  rcases Nat.lt_or_ge j n with hj | hj
  · rw [List.getElem?_set, idL_len]
    simp only [idL, List.getElem?_map, List.getElem?_range hj, Option.map_some]
    split
    · rename_i he; subst he; simp
    · rename_i he
      congr 1
      by_cases h : j < k
      · rw [if_pos h, if_pos (by omega)]
      · rw [if_neg h, if_neg (by omega)]
  · rw [List.getElem?_eq_none (by simp [idL_len, hj]), List.getElem?_eq_none (by rw [idL_len]; exact hj)]

end Go.Proofs.Ytjgndclfbcijmaa
