/- Contracts and plain laws, put together in one file. No condition. -/
import Derived.Test.YtakepdkokjecoaaJ1
import Derived.Test.YtakepdkokjecoaaProg
import Derived.Laws.BitsAllLaws
import Derived.BigRegion
import Derived.Laws.IdiomStrings
import Derived.Maps.RangeWalk
import Derived.Shelf.Abstract
import Derived.KernelRfl


/- Truth tables: words, full, count, Form of the program. -/
namespace Go.Proofs.Ytakepdkokjecoaa
open Go.RowKit Go.Tk

theorem pow_int (n : Nat) : (2 : Int) ^ n = ((2 ^ n : Nat) : Int) := by simp
theorem words_any (n : Nat) (w : World) (h : n ≤ 16) : Calls Try.prog 40 #[.int .i64 n] w fun e w' => e = .returned (.int .i64 (nw n : Nat)) ∧ w = w' := by
  have hp := pow_le16 h
  have hs := nw_shift h
  have hw : wrap64 ((2 : Int) ^ n) = ((2 ^ n : Nat) : Int) := by
    rw [pow_int]
    generalize 2 ^ n = p at hp
    exact IntWalk.wrap64_in _ (by omega)
  have hf : max 1 (wrap64 ((2 : Int) ^ n) / 64) = ((nw n : Nat) : Int) := by
    rw [hw, ← hs]
    generalize 2 ^ n = p at hp
    omega
  have HF := Lib.hid hf
  clear hs hw hf
  go_enter Try.func40, Try.ntmps40
  go_wp2
  go_ret
  exact ⟨by rw [← HF.out]; rfl, rfl⟩
theorem full_any (n : Nat) (w : World) (h : n ≤ 16) : Calls Try.prog 41 #[.int .i64 n] w fun e w' => e = .returned (.int .u64 (fullN n : Nat)) ∧ w = w' := by
  by_cases h6 : 6 ≤ n
  · have hf : fullN n = 18446744073709551615 := by unfold fullN; rw [if_pos h6]
    rw [hf]
    have h6' : (n : Int) ≥ 6 := by omega
    clear hf
    go_enter Try.func41, Try.ntmps41
    go_wp2
    go_ret
    exact ⟨rfl, rfl⟩
  · obtain rfl | rfl | rfl | rfl | rfl | rfl : n = 0 ∨ n = 1 ∨ n = 2 ∨ n = 3 ∨ n = 4 ∨ n = 5 := by omega
    all_goals
      clear h6 h
      go_enter Try.func41, Try.ntmps41
      go_wp2
      go_ret
      exact ⟨ret_int (by decide), rfl⟩
/-- the error of a count of variables -/
def cntE (n : Int) : Int := if n < 0 then 1 else if 16 < n then 6 else 0
/-- a slice of words -/
def ucell (x : Nat) : List Value := [.int .u64 (x : Int)]
theorem ucell_len (x : Nat) : (ucell x).length = 1 := rfl
abbrev WL (w : World) (A : Option Addr) (n : Nat) (ws : List Nat) : Prop := Sl w 1 ucell A n ws
abbrev OwnW (w : World) (A : Option Addr) (n C : Nat) (ws : List Nat) : Prop := Own w 30 1 ucell A n C ws
theorem WL.at1 {w : World} {A : Option Addr} {n : Nat} {ws : List Nat} (h : WL w A n ws) {i : Nat} {x : Nat} (hi : ws[i]? = some x) : ∃ b off, A = some ⟨b, off, none⟩ ∧ b < w.heap.size ∧ w.cell? ⟨b, off + i, none⟩ = some (.int .u64 x) := by
  obtain ⟨b, off, h1, h2, h3⟩ := h.get i x hi
  refine ⟨b, off, h1, h2, ?_⟩
  have := h3 0 (by omega)
  simpa [ucell] using this
def Small (ws : List Nat) : Prop := ∀ x ∈ ws, x < 18446744073709551616
theorem Small.at1 {ws : List Nat} (h : Small ws) {i x : Nat} (hi : ws[i]? = some x) : x < 18446744073709551616 := h x (List.mem_of_getElem? hi)
/-- is it in form? -/
def frm (N : Int) (ws : List Nat) : Bool := decide (0 ≤ N ∧ N ≤ 16 ∧ ws.length = nw N.toNat) && (decide (6 ≤ N) || decide (ws.getD 0 0 < 2 ^ 2 ^ N.toNat))
theorem frm_nat {n : Nat} {ws : List Nat} : frm n ws = true ↔ FormN n ws := by
  unfold frm
  simp only [Bool.and_eq_true, Bool.or_eq_true, decide_eq_true_eq, Int.toNat_natCast]
  constructor
  · rintro ⟨⟨_, h1, h2⟩, h3⟩
    exact ⟨by omega, h2, fun h => h3.elim (fun h4 => by omega) id⟩
  · intro h
    refine ⟨⟨by omega, by have := h.n16; omega, h.len⟩, ?_⟩
    by_cases h6 : n < 6
    · exact .inr (h.top h6)
    · exact .inl (by omega)
theorem frm_true {N : Int} {ws : List Nat} (h : frm N ws = true) : ∃ n : Nat, N = n ∧ FormN n ws := by
  have h0 : 0 ≤ N := by
    unfold frm at h
    simp at h
    exact h.1.1
  obtain ⟨n, rfl⟩ := Int.eq_ofNat_of_zero_le h0
  exact ⟨n, rfl, frm_nat.1 h⟩
theorem frm_false {N : Int} {ws : List Nat} (h : N < 0 ∨ 16 < N ∨ ws.length ≠ nw N.toNat) : frm N ws = false := by
  unfold frm
  rcases h with h | h | h
  · simp <;> omega
  · simp <;> omega
  · simp [h]
/-- no bit too many in the last word -/
theorem andNot_top {a k : Nat} (ha : a < 18446744073709551616) (hk : k ≤ 64) : (a &&& (18446744073709551615 - (2 ^ k - 1)) = 0) ↔ a < 2 ^ k := by
  have h2 : 18446744073709551615 - (2 ^ k - 1) = 2 ^ k * (2 ^ (64 - k) - 1) := by
    have h3 : 2 ^ k * 2 ^ (64 - k) = 18446744073709551616 := by rw [← Nat.pow_add, show k + (64 - k) = 64 by omega]
    have h4 : 0 < 2 ^ k := Nat.pow_pos (by omega)
    rw [Nat.mul_sub, h3]
    omega
  rw [h2]
  constructor
  · intro h
    refine Nat.lt_pow_two_of_testBit _ fun j hj => ?_
    by_cases hj64 : j < 64
    · have h5 := congrArg (fun x => x.testBit j) h
      simp only [Nat.testBit_and, Nat.testBit_two_pow_mul, Nat.testBit_two_pow_sub_one, Nat.zero_testBit] at h5
      simpa [show k ≤ j from hj, show j - k < 64 - k by omega] using h5
    · exact Nat.testBit_lt_two_pow (Nat.lt_of_lt_of_le ha (Nat.pow_le_pow_right (show 0 < 2 by omega) (show 64 ≤ j by omega)))
  · intro h
    apply Nat.eq_of_testBit_eq
    intro j
    simp only [Nat.testBit_and, Nat.testBit_two_pow_mul, Nat.zero_testBit]
    by_cases hj : k ≤ j
    · have : a.testBit j = false := Nat.testBit_lt_two_pow (Nat.lt_of_lt_of_le h (Nat.pow_le_pow_right (by omega) hj))
      simp [this]
    · simp [hj]
theorem last_ok {n : Nat} {ws : List Nat} (hn : n ≤ 16) (hl : ws.length = nw n) {x : Nat} (hx : ws[nw n - 1]? = some x) (hb : x < 18446744073709551616) : decide (x &&& (18446744073709551615 - fullN n) = 0) = frm n ws := by
  by_cases h6 : 6 ≤ n
  · have h1 : frm n ws = true := frm_nat.2 ⟨hn, hl, fun h => by omega⟩
    rw [h1]
    unfold fullN
    rw [if_pos h6]
    simp
  · have h0 : nw n = 1 := nw_small (by omega)
    rw [h0] at hx
    have hk : 2 ^ n ≤ 32 := by
      have : ∀ n, n < 6 → 2 ^ n ≤ 32 := by decide
      exact this n (by omega)
    have h2 := andNot_top hb (show 2 ^ n ≤ 64 by omega)
    have h3 : fullN n = 2 ^ 2 ^ n - 1 := by unfold fullN; rw [if_neg h6]
    rw [h3]
    have hg : ws.getD 0 0 = x := by rw [List.getD_eq_getElem?_getD, show ws[0]? = some x from hx]; rfl
    have h4 : frm n ws = decide (x < 2 ^ 2 ^ n) := by
      unfold frm
      rw [hg, Int.toNat_natCast]
      have e1 : decide ((0 : Int) ≤ n ∧ (n : Int) ≤ 16 ∧ ws.length = nw n) = true := by simp [hl] <;> omega
      have e2 : decide ((6 : Int) ≤ n) = false := by simp <;> omega
      rw [e1, e2]
      simp
    rw [h4, decide_eq_decide]
    exact h2

theorem beq0 (z : Nat) : (((z : Nat) : Int) == 0) = decide (z = 0) := by rw [Bool.eq_iff_iff]; simp
set_option maxHeartbeats 1000000 in
theorem Form_any (N : Int) (A : Option Addr) (m C : Nat) (ws : List Nat) (w : World) (h : WL w A m ws) (hb : Small ws) :
    Calls Try.prog 36 #[.agg #[.int .i64 N, .slice A m C]] w fun e w' => e = .returned (.bool (frm N ws)) ∧ Same w w' := by
  obtain rfl := h.len
  have H := Lib.hid h
  clear h
  obtain ⟨r, hr⟩ : ∃ r, frm N ws = r := ⟨_, rfl⟩
  rw [hr]
  by_cases h0 : N < 0
  · have hf : r = false := by rw [← hr]; exact frm_false (.inl h0)
    subst hf
    clear hr
    go_enter Try.func36, Try.ntmps36
    go_upto_region 1 with fail
    refine wp_quiet (by kernel_rfl) (by kernel_rfl) ?_
    repeat (any_goals (first | go_big_quiet_step (fail) | quiet_step (fail)))
    refine wpQuiet_nil ?_
    rintro _ ⟨q, rfl⟩
    go_wp2
    go_ret
    exact ⟨rfl, ((Frm.refl _ _).alloc _).trans (more_same _ q) (fun _ _ h => h)⟩
  by_cases h1 : N > 16
  · have hf : r = false := by rw [← hr]; exact frm_false (.inr (.inl (by omega)))
    subst hf
    clear hr
    go_enter Try.func36, Try.ntmps36
    go_upto_region 1 with fail
    refine wp_quiet (by kernel_rfl) (by kernel_rfl) ?_
    repeat (any_goals (first | go_big_quiet_step (fail) | quiet_step (fail)))
    refine wpQuiet_nil ?_
    rintro _ ⟨q, rfl⟩
    go_wp2
    go_ret
    exact ⟨rfl, ((Frm.refl _ _).alloc _).trans (more_same _ q) (fun _ _ h => h)⟩
  obtain ⟨n, rfl⟩ : ∃ n : Nat, N = n := ⟨N.toNat, by omega⟩
  have hN : n ≤ 16 := by omega
  by_cases hl : ws.length = nw n
  · have hnp := nw_pos n
    have hnl := nw_le hN
    obtain ⟨k, hk⟩ : ∃ k, nw n = k := ⟨_, rfl⟩
    have hWd := fun w => words_any n w hN
    rw [hk] at hl hnp hnl hWd
    obtain ⟨x, hx⟩ : ∃ x, ws[k - 1]? = some x := ⟨_, List.getElem?_eq_getElem (by omega)⟩
    have hxb := hb.at1 hx
    have hlast : decide (x &&& (18446744073709551615 - fullN n) = 0) = r := by
      rw [← hr]
      exact last_ok hN (by rw [hl, hk]) (by rw [hk]; exact hx) hxb
    have hfl := fullN_lt n
    have hFu := fun w => full_any n w hN
    obtain ⟨fu, hfu⟩ : ∃ fu, fullN n = fu := ⟨_, rfl⟩
    rw [hfu] at hlast hfl hFu
    obtain ⟨b, off, rfl, hbl, hc⟩ := H.out.at1 hx
    have hand := u64_andNot_nat x fu hxb hfl
    have hidx : (0 : Int) ≤ (k : Int) - 1 := by omega
    have hidx2 : (k : Int) - 1 < k := by omega
    have HWD := Lib.hid hWd
    have HFU := Lib.hid hFu
    have HLAST := Lib.hid hlast
    have HH := Lib.hid hl
    clear hr hk hx hWd hFu hfu hlast
    rw [hl]
    clear hl
    go_enter Try.func36, Try.ntmps36
    go_upto_region 1 with fail
    refine wp_quiet (by kernel_rfl) (by kernel_rfl) ?_
    repeat (any_goals (first | go_big_quiet_step ((go_at_call 40; exact quiet_call ((HWD.out _).mono fun e w' h => ⟨h.1, h.2 ▸ Frm.refl _ _⟩))) | quiet_step ((go_at_call 40; exact quiet_call ((HWD.out _).mono fun e w' h => ⟨h.1, h.2 ▸ Frm.refl _ _⟩)))))
    refine wpQuiet_nil ?_
    rintro wz ⟨q, hq⟩
    have hsz : Same w wz := by rw [hq]; exact ((Frm.refl _ _).alloc _).trans (more_same _ q) (fun _ _ h => h)
    have hB := (Blk.new w 37 #[.int .i64 n, .slice (some ⟨b, off, none⟩) k C]).frm (more_same _ q) id
    rw [← hq] at hB
    have hc0 : wz.cell? ⟨w.heap.size, 0, none⟩ = some (.int .i64 n) := hB.cell 0
    have hc1 : wz.cell? ⟨w.heap.size, 1, none⟩ = some (.slice (some ⟨b, off, none⟩) k C) := hB.cell 1
    have hcl := hB.lt
    have hcz := (hsz.cell (p := ⟨b, off + (k - 1), none⟩) hbl id).trans hc
    have hbz : b < wz.heap.size := by have := hsz.size; omega
    have HSZ := Lib.hid hsz
    clear hq hc hbl hB hsz
    go_upto_region 3 with fail
    refine wp_quiet (by kernel_rfl) (by kernel_rfl) ?_
    repeat (any_goals (first | go_big_quiet_step ((go_at_call 41; exact quiet_call ((HFU.out _).mono fun e w' h => ⟨h.1, h.2 ▸ Frm.refl _ _⟩))) | quiet_step ((go_at_call 41; exact quiet_call ((HFU.out _).mono fun e w' h => ⟨h.1, h.2 ▸ Frm.refl _ _⟩)))))
    refine wpQuiet_nil ?_
    rintro _ ⟨q2, rfl⟩
    go_wp2
    go_ret
    exact ⟨ret_bool (by rw [← HLAST.out]; exact beq0 _), HSZ.out.trans (more_same _ q2) (fun _ _ h => h)⟩
  · have hf : r = false := by rw [← hr]; exact frm_false (.inr (.inr hl))
    subst hf
    have hl' : ((ws.length : Int) != ((nw n : Nat) : Int)) = true := by simp <;> omega
    clear hr
    go_enter Try.func36, Try.ntmps36
    go_upto_region 1 with fail
    refine wp_quiet (by kernel_rfl) (by kernel_rfl) ?_
    repeat (any_goals (first | go_big_quiet_step ((go_at_call 40; exact quiet_call ((words_any _ _ hN).mono fun e w' h => ⟨h.1, h.2 ▸ Frm.refl _ _⟩))) | quiet_step ((go_at_call 40; exact quiet_call ((words_any _ _ hN).mono fun e w' h => ⟨h.1, h.2 ▸ Frm.refl _ _⟩)))))
    refine wpQuiet_nil ?_
    rintro _ ⟨q, rfl⟩
    go_wp2
    go_ret
    exact ⟨rfl, ((Frm.refl _ _).alloc _).trans (more_same _ q) (fun _ _ h => h)⟩
end Go.Proofs.Ytakepdkokjecoaa


/- Truth tables: form of the program (a list of tables). -/
namespace Go.Proofs.Ytakepdkokjecoaa
open Go.RowKit Go.Tk

/-- a table as it is handed about -/
structure Tb where
  N : Int
  A : Option Addr
  C : Nat
  ws : List Nat
def Tb.val (t : Tb) : Value := .agg #[.int .i64 t.N, .slice t.A t.ws.length t.C]
def Tb.frm (t : Tb) : Bool := Proofs.Ytakepdkokjecoaa.frm t.N t.ws
/-- its words are to be read -/
structure TbOk (w : World) (t : Tb) : Prop where
  wl : WL w t.A t.ws.length t.ws
  small : Small t.ws
theorem TbOk.same {w w' : World} {t : Tb} (h : TbOk w t) (hs : Same w w') : TbOk w' t := ⟨Sl.same h.wl hs, h.small⟩
theorem TbOk.form {w : World} {t : Tb} (h : TbOk w t) {w' : World} (hs : Same w w') : Calls Try.prog 36 #[t.val] w' fun e w'' => e = .returned (.bool t.frm) ∧ Same w' w'' :=
  Form_any t.N t.A _ t.C t.ws w' (Sl.same h.wl hs) h.small
/-- tables in a row -/
def Tbs (w : World) (g : Nat) (ts : List Tb) : Prop := ∀ i t, ts[i]? = some t → g < w.heap.size ∧ w.cell? ⟨g, i * 2, none⟩ = some (.int .i64 t.N) ∧ w.cell? ⟨g, i * 2 + 1, none⟩ = some (.slice t.A t.ws.length t.C)
theorem Tbs.same {w w' : World} {g : Nat} {ts : List Tb} (h : Tbs w g ts) (hs : Same w w') : Tbs w' g ts := fun i t hi => by
  obtain ⟨h1, h2, h3⟩ := h i t hi
  exact ⟨Nat.lt_of_lt_of_le h1 hs.size, (hs.cell (p := ⟨g, i * 2, none⟩) h1 id).trans h2, (hs.cell (p := ⟨g, i * 2 + 1, none⟩) h1 id).trans h3⟩
/-- all in form and of one N -/
def fm (ts : List Tb) : Bool := ts.all fun t => t.frm && (t.N == (ts.getD 0 ⟨0, none, 0, []⟩).N)

set_option maxHeartbeats 2000000 in
theorem form_any (g n C : Nat) (ts : List Tb) (w : World) (hn : n = ts.length) (hn1 : n ≤ 1000) (h : Tbs w g ts) (hok : ∀ t ∈ ts, TbOk w t) :
    Calls Try.prog 29 #[.slice (some ⟨g, 0, none⟩) n C] w fun e w' => e = .returned (.bool (fm ts)) ∧ Same w w' := by
  have H := Lib.hid h
  have HOK := Lib.hid hok
  obtain ⟨r, hr⟩ : ∃ r, fm ts = r := ⟨_, rfl⟩
  rw [hr]
  have HR := Lib.hid hr
  have HN := Lib.hid hn
  clear h hok hr hn
  go_enter Try.func29, Try.ntmps29
  go_wp2
  go_loopw [7] (fun i wr => ∃ k : Nat, k ≤ n ∧ i = .int .i64 k ∧ (∀ j t, ts[j]? = some t → j < k → t.frm = true ∧ t.N = (ts.getD 0 ⟨0, none, 0, []⟩).N) ∧ Same w wr) (fun i _ => n - (intOf i).toNat)
  case atStart => exact ⟨0, by omega, rfl, fun j t _ h => by omega, Frm.refl _ _⟩
  case round =>
    obtain ⟨k, hk, rfl, hall, hs⟩ := hrel
    have HALL := Lib.hid hall
    have HS := Lib.hid hs
    by_cases hlt : k < n
    · have hi1 : (k : Int) < n := by omega
      have hi0 : (0 : Int) ≤ k := by omega
      have hn0 : (0 : Int) < n := by omega
      obtain ⟨t, ht⟩ : ∃ t, ts[k]? = some t := ⟨_, List.getElem?_eq_getElem (by rw [← HN.out]; exact hlt)⟩
      obtain ⟨t0, ht0⟩ : ∃ t, ts[0]? = some t := ⟨_, List.getElem?_eq_getElem (by rw [← HN.out]; omega)⟩
      have hd0 : ts.getD 0 ⟨0, none, 0, []⟩ = t0 := by rw [List.getD_eq_getElem?_getD, ht0]; rfl
      obtain ⟨hg, hc0, hc1⟩ := (H.out.same hs) k t ht
      obtain ⟨_, hz0, _⟩ := (H.out.same hs) 0 t0 ht0
      rw [Nat.zero_mul] at hz0
      have htok := HOK.out t (List.mem_of_getElem? ht)
      have hne : g ≠ wr.heap.size := by omega
      have HT := Lib.hid ht
      have HD0 := Lib.hid hd0
      clear ht ht0 hd0 hall hs
      obtain ⟨tN, tA, tC, tws⟩ := t
      obtain ⟨zN, zA, zC, zws⟩ := t0
      simp only at hc0 hc1 hz0
      have HTOK := Lib.hid htok
      clear htok
      have hbx : ∃ b, (Tb.mk tN tA tC tws).frm = b := ⟨_, rfl⟩
      obtain ⟨bb, hbb⟩ := hbx
      go_upto_region 4 with fail
      refine wp_world fun wa hwa => ?_
      have hsa : Same wr wa := by rw [hwa]; exact (Frm.refl _ _).alloc _
      have hB := Blk.new wr 37 #[.int .i64 tN, .slice tA tws.length tC]
      rw [← hwa] at hB
      have hb0 : wa.cell? ⟨wr.heap.size, 0, none⟩ = some (.int .i64 tN) := hB.cell 0
      have hb1 : wa.cell? ⟨wr.heap.size, 1, none⟩ = some (.slice tA tws.length tC) := hB.cell 1
      have hbl := hB.lt
      have hza : wa.cell? ⟨g, 0, none⟩ = some (.int .i64 zN) := (hsa.cell (p := ⟨g, 0, none⟩) hg id).trans hz0
      have hga : g < wa.heap.size := by omega
      have hfc : ∀ w', Same wa w' → Calls Try.prog 36 #[.agg #[.int .i64 tN, .slice tA tws.length tC]] w' fun e w'' => e = .returned (.bool bb) ∧ Same w' w'' := fun w' hs' => by
        have := HTOK.out.form ((HS.out.trans hsa (fun _ _ h => h)).trans hs' (fun _ _ h => h))
        rw [hbb] at this
        exact this
      have HFC := Lib.hid hfc
      have HSA := Lib.hid (HS.out.trans hsa (fun _ _ h => h))
      have HBB := Lib.hid hbb
      clear hwa hsa hB hc0 hc1 hz0 hg hfc HTOK hbb
      cases bb with
      | false =>
        have hf : r = false := by
          rw [← HR.out]
          unfold fm
          rw [List.all_eq_false]
          exact ⟨_, List.mem_of_getElem? HT.out, by simp [HBB.out]⟩
        subst hf
        refine wp_quiet (by kernel_rfl) (by kernel_rfl) ?_
        repeat (any_goals (first | go_big_quiet_step ((go_at_call 36; exact quiet_call (HFC.out _ (more_same _ _)))) | quiet_step ((go_at_call 36; exact quiet_call (HFC.out _ (more_same _ _))))))
        refine wpQuiet_nil ?_
        rintro _ ⟨q, rfl⟩
        go_wp2
        go_ret
        exact ⟨rfl, HSA.out.trans (more_same _ q) (fun _ _ h => h)⟩
      | true =>
        by_cases hNN : tN = zN
        · subst hNN
          refine wp_quiet (by kernel_rfl) (by kernel_rfl) ?_
          repeat (any_goals (first | go_big_quiet_step ((go_at_call 36; exact quiet_call (HFC.out _ (more_same _ _)))) | quiet_step ((go_at_call 36; exact quiet_call (HFC.out _ (more_same _ _))))))
          refine wpQuiet_nil ?_
          rintro _ ⟨q, rfl⟩
          go_wp2
          go_roundw
          case rel => exact ⟨k + 1, by omega, by go_num, fun j t hj hjk => by
            by_cases hjk2 : j < k
            · exact HALL.out j t hj hjk2
            · obtain rfl : j = k := by omega
              obtain rfl := Option.some.inj (hj.symm.trans HT.out)
              exact ⟨HBB.out, by rw [HD0.out]⟩, HSA.out.trans (more_same _ q) (fun _ _ h => h)⟩
          case measure => simp [intOf] <;> omega
        · have hne2 : (tN != zN) = true := by simpa using hNN
          have hf : r = false := by
            rw [← HR.out]
            unfold fm
            rw [List.all_eq_false]
            exact ⟨_, List.mem_of_getElem? HT.out, by rw [HD0.out]; simp [hNN]⟩
          subst hf
          clear hNN
          refine wp_quiet (by kernel_rfl) (by kernel_rfl) ?_
          repeat (any_goals (first | go_big_quiet_step ((go_at_call 36; exact quiet_call (HFC.out _ (more_same _ _)))) | quiet_step ((go_at_call 36; exact quiet_call (HFC.out _ (more_same _ _))))))
          refine wpQuiet_nil ?_
          rintro _ ⟨q, rfl⟩
          go_wp2
          go_ret
          exact ⟨rfl, HSA.out.trans (more_same _ q) (fun _ _ h => h)⟩
    · obtain rfl : k = n := by omega
      have hf : r = true := by
        rw [← HR.out]
        unfold fm
        rw [List.all_eq_true]
        intro t ht
        obtain ⟨j, hj⟩ := List.getElem?_of_mem ht
        have := HALL.out j t hj (by rw [HN.out]; exact lt_of_get hj)
        simp [this]
      subst hf
      clear hall hs HALL
      go_wp2
      go_ret
      exact ⟨rfl, HS.out⟩
end Go.Proofs.Ytakepdkokjecoaa


/- Shape: the key of a table. -/
namespace Go.Proofs.Ytakepdkokjecoaa
open Go.RowKit Go.Tk

def u8cell (x : UInt8) : List Value := [.int .u8 (x.toNat : Int)]
theorem u8cell_len (x : UInt8) : (u8cell x).length = 1 := rfl
theorem info_u8 : (Try.prog.info? 5).map (fun i => (i.zero, i.size, i.bytes)) = some (some (.int .u8 0), 1, 1) := by kernel_rfl
def byteAt (x i : Nat) : UInt8 := UInt8.ofNat (x / 2 ^ (8 * i))
def wbytes (x : Nat) : List UInt8 := (List.range 8).map (byteAt x)
def kbytes (ws : List Nat) : List UInt8 := ws.flatMap wbytes
def kstr (ws : List Nat) : ByteArray := ⟨(kbytes ws).toArray⟩
theorem byteAt_nat (x i : Nat) : (byteAt x i).toNat = x / 2 ^ (8 * i) % 256 := by simp [byteAt]
theorem byteAt_int (x i : Nat) : (x : Int) / 2 ^ (8 * i) % 256 = ((byteAt x i).toNat : Int) := by
  rw [byteAt_nat, Int.natCast_emod, Int.natCast_ediv, Int.natCast_pow]
  rfl
theorem wbytes_len (x : Nat) : (wbytes x).length = 8 := by simp [wbytes]
theorem wbytes_take (x : Nat) {j : Nat} (hj : j < 8) : (wbytes x).take (j + 1) = (wbytes x).take j ++ [byteAt x j] := by
  rw [List.take_add_one]
  simp [wbytes, hj]
theorem kbytes_len (ws : List Nat) : (kbytes ws).length = 8 * ws.length := by
  induction ws with
  | nil => rfl
  | cons x ws ih => rw [kbytes, List.flatMap_cons, List.length_append, wbytes_len]; rw [kbytes] at ih; rw [ih, List.length_cons]; omega
theorem kbytes_take {ws : List Nat} {k x : Nat} (h : ws[k]? = some x) : kbytes (ws.take (k + 1)) = kbytes (ws.take k) ++ wbytes x := by
  rw [List.take_add_one, h, kbytes, List.flatMap_append]
  simp [kbytes]
theorem byte_sum {x : Nat} (hx : x < 18446744073709551616) : x = x / 2 ^ (8 * 0) % 256 + 256 * (x / 2 ^ (8 * 1) % 256) + 65536 * (x / 2 ^ (8 * 2) % 256) + 16777216 * (x / 2 ^ (8 * 3) % 256) + 4294967296 * (x / 2 ^ (8 * 4) % 256) + 1099511627776 * (x / 2 ^ (8 * 5) % 256) + 281474976710656 * (x / 2 ^ (8 * 6) % 256) + 72057594037927936 * (x / 2 ^ (8 * 7) % 256) := by
  simp only [Nat.reduceMul, Nat.reducePow]
  omega
theorem wbytes_inj {x y : Nat} (hx : x < 18446744073709551616) (hy : y < 18446744073709551616) (h : wbytes x = wbytes y) : x = y := by
  have key : ∀ i, i < 8 → x / 2 ^ (8 * i) % 256 = y / 2 ^ (8 * i) % 256 := fun i hi => by
    have h1 := congrArg (fun l : List UInt8 => l[i]?) h
    simp only [wbytes, List.getElem?_map, List.getElem?_range hi, Option.map_some, Option.some.injEq] at h1
    rw [← byteAt_nat, ← byteAt_nat, h1]
  rw [byte_sum hx, byte_sum hy, key 0 (by omega), key 1 (by omega), key 2 (by omega), key 3 (by omega), key 4 (by omega), key 5 (by omega), key 6 (by omega), key 7 (by omega)]
theorem kbytes_inj : ∀ {xs ys : List Nat}, Small xs → Small ys → kbytes xs = kbytes ys → xs = ys
  | [], [], _, _, _ => rfl
  | [], y :: ys, _, _, h => by have := congrArg List.length h; rw [kbytes_len, kbytes_len] at this; simp at this
  | x :: xs, [], _, _, h => by have := congrArg List.length h; rw [kbytes_len, kbytes_len] at this; simp at this
  | x :: xs, y :: ys, hx, hy, h => by
    have h1 : wbytes x ++ kbytes xs = wbytes y ++ kbytes ys := h
    obtain ⟨h2, h3⟩ := List.append_inj h1 (by rw [wbytes_len, wbytes_len])
    rw [wbytes_inj (hx x List.mem_cons_self) (hy y List.mem_cons_self) h2, kbytes_inj (fun z hz => hx z (List.mem_cons_of_mem _ hz)) (fun z hz => hy z (List.mem_cons_of_mem _ hz)) h3]
theorem kstr_inj {xs ys : List Nat} (hx : Small xs) (hy : Small ys) (h : kstr xs = kstr ys) : xs = ys := by
  refine kbytes_inj hx hy ?_
  have := congrArg (fun b : ByteArray => b.data.toList) h
  simpa [kstr] using this
set_option maxRecDepth 100000 in
set_option maxHeartbeats 8000000 in
theorem key_any (N : Int) (A : Option Addr) (C : Nat) (ws : List Nat) (w : World) (h : TbOk w ⟨N, A, C, ws⟩) (h0 : 0 < ws.length) (h1 : ws.length ≤ 1024) :
    Calls Try.prog 39 #[.agg #[.int .i64 N, .slice A ws.length C]] w fun e w' => e = .returned (.string (kstr ws)) ∧ Same w w' := by
  have H := Lib.hid h
  clear h
  go_enter Try.func39, Try.ntmps39
  go_upto_region 1 with fail
  refine wp_world fun w1 hw1 => ?_
  have hs1 : Same w w1 := by rw [hw1]; exact (Frm.refl _ _).alloc _
  have hBX : Blk w1 w.heap.size 37 #[.int .i64 N, .slice A ws.length C] := by rw [hw1]; exact Blk.new _ _ _
  have hws : w.heap.size ≤ w.heap.size := Nat.le_refl _
  obtain ⟨X, hX⟩ : ∃ b, w.heap.size = b := ⟨_, rfl⟩
  rw [hX] at hBX ⊢
  have cX1 : w1.cell? ⟨X, 1, none⟩ = some (.slice A ws.length C) := hBX.cell 1
  have lX := hBX.lt
  have HS1 := Lib.hid hs1
  clear hw1 hX hs1 hBX hws
  go_wp2
  clear cX1 lX
  go_loopw [3, 10] (fun b i wi => ∃ (k : Nat) (B : Option Addr) (D : Nat), k ≤ ws.length ∧ i = .int .i64 k ∧ b = .slice B (8 * k) D ∧ Own wi 5 1 u8cell B (8 * k) D (kbytes (ws.take k)) ∧ Fresh w.heap.size B ∧ Same w wi) (fun _ i _ => ws.length - (intOf i).toNat)
  case atStart => exact ⟨0, none, 0, by omega, rfl, rfl, Own.nil _ _ _ _, fresh_none _, HS1.out⟩
  case round =>
    obtain ⟨k, B, D, hk, rfl, rfl, ho, hfB, hs⟩ := hrel
    clear HS1
    by_cases hlt : k < ws.length
    · obtain ⟨x, hx⟩ : ∃ x, ws[k]? = some x := ⟨_, List.getElem?_eq_getElem hlt⟩
      obtain ⟨bw, ow, hA, hbw, hc⟩ := WL.at1 (Sl.same H.out.wl hs) hx
      subst hA
      have hx64 := Small.at1 H.out.small hx
      have hk0 : (0 : Int) ≤ k := by omega
      have hk1 : (k : Int) < ws.length := by omega
      have HX := Lib.hid hx
      have HO := Lib.hid ho
      have HFB := Lib.hid hfB
      have HS := Lib.hid hs
      clear hx ho hfB hs
      go_wp2
      obtain ⟨wo, rfl⟩ : ∃ z, z = wr := ⟨_, rfl⟩
      clear hc hbw
      go_loopw [3, 14] (fun b i wi => ∃ (j : Nat) (B : Option Addr) (D : Nat), j ≤ 8 ∧ i = .int .i64 j ∧ b = .slice B (8 * k + j) D ∧ Own wi 5 1 u8cell B (8 * k + j) D (kbytes (ws.take k) ++ (wbytes x).take j) ∧ Fresh w.heap.size B ∧ Same w wi) (fun _ i _ => 8 - (intOf i).toNat)
      case atStart => exact ⟨0, B, D, by omega, rfl, rfl, by simpa using HO.out, HFB.out, HS.out⟩
      case round =>
        clear HO HFB HS
        obtain ⟨j, B, D, hj, rfl, rfl, ho, hfB, hs⟩ := hrel
        by_cases hlj : j < 8
        · have hj0 : (0 : Int) ≤ j := by omega
          have hj1 : (j : Int) < 8 := by omega
          have hwr : IntKind.i64.wrap (8 * (j : Int)) = 8 * (j : Int) := IntWalk.i64_in _ (by omega)
          have HO := Lib.hid ho
          have HFB := Lib.hid hfB
          have HS := Lib.hid hs
          clear ho hfB hs
          go_upto_region 8 with fail
          refine wp_region_lit ?_
          refine wpList_read 6 ?_
          simp only [List.take_succ_cons, List.take_zero, List.drop_succ_cons, List.drop_zero]
          repeat (any_goals (first | go_big_quiet_step (fail) | quiet_step (fail)))
          refine wpQuiet_nil ?_
          rw [byteAt_int x j]
          refine wpList_plain rfl fun K hK => ?_
          go_simp
          refine hK _ _ ?_
          clear hK K
          refine list_world fun wc hwc => ?_
          have hsc : Same wr wc := by rw [hwc]; exact (Frm.refl _ _).alloc _
          have hNc := Blk.new wr 5 #[.int .u8 ((byteAt x j).toNat : Int)]
          rw [← hwc] at hNc
          clear hwc
          refine wpList_plain rfl fun K hK => ?_
          refine Own.grow (f := u8cell) (.tmp 17) (.tmp 23) _ rfl Try.underlying79 info_u8 rfl rfl (Own.frm HO.out hsc (fun _ _ => id)) u8cell_len [byteAt x j] (by simp) ⟨wr.heap.size, 0, none⟩ 1 rfl (fun j u hj => news_of_blk hNc j u hj) (by simp [u8cell, Value.oneCell']) (by simp [maxLen] <;> omega) (by simp <;> omega) ?_
          intro g D' wd hOd _ hgr hat
          refine hK _ _ ?_
          clear hK K
          have hsd : Same w wd := (HS.out.trans hsc (fun _ _ h => h)).grown hgr (fun b hb => .inr (HFB.out b (ownBlock_row.1 hb)))
          have hgF : Fresh w.heap.size (some ⟨g, 0, none⟩) := by
            rcases hat with ⟨h1, _⟩ | ⟨h1, _⟩
            · rw [← h1]; exact HFB.out
            · have := HS.out.size; have := hsc.size; exact fresh_some (by omega)
          have hod : Own wd 5 1 u8cell (some ⟨g, 0, none⟩) (8 * k + (j + 1)) D' (kbytes (ws.take k) ++ (wbytes x).take (j + 1)) := by
            rw [wbytes_take x hlj, ← List.append_assoc]
            exact hOd
          have HOD := Lib.hid hod
          have HSD := Lib.hid hsd
          have HGF := Lib.hid hgF
          clear hgr hOd hat hNc hsc hod hsd hgF HO HS HFB hwr
          go_wp2
          go_roundw
          case rel => exact ⟨j + 1, some ⟨g, 0, none⟩, D', by omega, by go_num, by go_num, HOD.out, HGF.out, HSD.out⟩
          case measure => simp [intOf] <;> omega
        · obtain rfl : j = 8 := by omega
          have hod : Own wr 5 1 u8cell B (8 * (k + 1)) D (kbytes (ws.take (k + 1))) := by
            rw [kbytes_take HX.out]
            rw [show (wbytes x).take 8 = wbytes x from List.take_of_length_le (by rw [wbytes_len]; exact Nat.le_refl _)] at ho
            exact ho
          have HOD := Lib.hid hod
          have HFB := Lib.hid hfB
          have HS := Lib.hid hs
          clear ho hfB hs hod
          go_wp2
          go_roundw
          case rel => exact ⟨k + 1, B, D, by omega, by go_num, by go_num, HOD.out, HFB.out, HS.out⟩
          case measure => simp [intOf] <;> omega
    · obtain rfl : k = ws.length := by omega
      rw [List.take_of_length_le (Nat.le_refl _)] at ho
      obtain ⟨g, hB, _⟩ := ho.form (by omega)
      subst hB
      have hcv : (convert 79 9 (.slice (some ⟨g, 0, none⟩) (8 * ws.length) D)).run Try.prog wr = .ok (.string (kstr ws)) wr := by
        have h2 := run_convert_bytes_back (P := Try.prog) wr 79 9 5 ⟨g, 0, none⟩ D (kbytes ws) Try.underlying79 Try.underlying5 Try.underlying9 (fun j hj => by
          obtain ⟨sb, h3, _, h4⟩ := Own.at1 (c := fun x : UInt8 => .int .u8 (x.toNat : Int)) ho (i := j) (x := (kbytes ws)[j]) (List.getElem?_eq_getElem hj)
          injection h3 with h3
          injection h3 with h3
          subst h3
          have hadd : (⟨g, 0, none⟩ : Addr).add j = ⟨g, j, none⟩ := by unfold Addr.add; split <;> simp_all
          rw [hadd]
          exact h4)
        rw [kbytes_len] at h2
        exact h2
      clear ho hfB
      go_wp2
      go_ret
      exact ⟨rfl, hs⟩
end Go.Proofs.Ytakepdkokjecoaa


/- Shape: sets of tables: what a map of tables holds; add. -/
namespace Go.Tk
open Go.RowKit Go.Maps
/-- a store into a map, as one operation -/
theorem Own.mapPut {H : Type} {P : Program} {o : Oper} {a : Act} {w : World} {K : Act → World → Prop} {Q : Exit → Act → World → Prop} (m x v : Operand) (t : TypeId) (ho : o.op = Op.mapUpdate t m x v) (k e : TypeId) (KY : Keyed P k) (ht : P.underlying t = some (.map k e)) (R : Value → Option (DataW H × List MemPlace)) (b n : Nat) (D : DataW H)
    (hm : a.eval m = .map (some b)) (hown : w.ownsMap P k R b n D) (hn : n < maxLen) (key val : Value) (kl : Lit) (hx : a.eval x = key) (hv : a.eval v = val) (hkey : keyOf P k key = some kl) (d : DataW H) (ps : List MemPlace) (hval : R val = some (d, ps))
    (hK : ∀ w', w'.ownsMap P k R b (n + 1) (D.put kl d) → w.grownBy w' (some b) → K (a.put o.dst undef) w') : o.wp P a w K Q := by
  obtain ⟨w', hrun, r1, r2⟩ := hown.update KY ht hn hkey hval
  unfold Oper.wp
  simp [execOp, ho, hm, hx, hv, hrun, Result.andThen]
  exact hK _ r1 r2
theorem ownsMap_frm {H : Type} {P : Program} {k : TypeId} {R : Value → Option (DataW H × List MemPlace)} {w w' : World} {b n : Nat} {D : DataW H} {S : Nat → Prop} (h : w.ownsMap P k R b n D) (hf : Frm S w w') (hS : ¬ S b) : w'.ownsMap P k R b n D := by
  have hlt := h.lt
  obtain ⟨es, clock, hb, rest⟩ := h
  exact ⟨es, clock, (hf.block b hlt hS).trans hb, rest⟩
theorem ranges_frm {H : Type} {P : Program} {k : TypeId} {R : Value → Option (DataW H × List MemPlace)} {w w' : World} {b r n : Nat} {D : DataW H} {left : Lit → Bool} {cnt : Nat} {S : Nat → Prop} (h : w.ranges P k R b r n D left cnt) (hf : Frm S w w') (hS : ¬ S b) (hr : ¬ S r) : w'.ranges P k R b r n D left cnt := by
  have h1 := h.owns.lt
  have h2 := h.lt
  obtain ⟨es, clock, since, seen, c0, hb, F, hs, hD, hrr, rest⟩ := h
  exact ⟨es, clock, since, seen, c0, (hf.block b h1 hS).trans hb, F, hs, hD, (hf.block r h2 hr).trans hrr, rest⟩
/-- cells stay while a map turns -/
theorem cell_map {H : Type} {P : Program} {k : TypeId} {R : Value → Option (DataW H × List MemPlace)} {w w' : World} {b n : Nat} {D : DataW H} (h : w.ownsMap P k R b n D) (hf : Frm (fun x => x = b) w w') {p : Addr} {v : Value} (hp : p.block < w.heap.size) (hc : w.cell? p = some v) : w'.cell? p = some v := by
  have hne : p.block ≠ b := fun he => by
    obtain ⟨es, clock, hb, _⟩ := h
    unfold World.cell? at hc
    rw [he, hb] at hc
    cases hc
  exact (hf.cell hp hne).trans hc
theorem Sl.turnMap {H : Type} {P : Program} {k : TypeId} {R : Value → Option (DataW H × List MemPlace)} {w w' : World} {b n : Nat} {D : DataW H} (h : w.ownsMap P k R b n D) (hf : Frm (fun x => x = b) w w') {m : Nat} {α : Type} {f : α → List Value} {A : Option Addr} {N : Nat} {xs : List α} (hlen : ∀ x, (f x).length = m) (hs : Sl w m f A N xs) : Sl w' m f A N xs := by
  refine ⟨hs.len, fun i x hi => ?_⟩
  obtain ⟨b0, off, h1, h2, h3⟩ := hs.get i x hi
  exact ⟨b0, off, h1, Nat.lt_of_lt_of_le h2 hf.size, fun j hj => by
    have hc := h3 j hj
    have hlt : j < (f x).length := by rw [hlen]; exact hj
    rw [List.getElem?_eq_getElem hlt] at hc ⊢
    exact cell_map h hf (p := ⟨b0, off + i * m + j, none⟩) h2 hc⟩
end Go.Tk
namespace Go.Proofs.Ytakepdkokjecoaa
open Go.RowKit Go.Tk Go.Maps

open Classical in
/-- a table in a map is held as it is -/
noncomputable def tabR (v : Value) : Option (DataW Value × List MemPlace) := if ∃ (N : Int) (A : Option Addr) (n C : Nat), v = .agg #[.int .i64 N, .slice A n C] then some (.held v, []) else none
theorem tabR_of (N : Int) (A : Option Addr) (n C : Nat) : tabR (.agg #[.int .i64 N, .slice A n C]) = some (.held (.agg #[.int .i64 N, .slice A n C]), []) := by
  unfold tabR
  rw [if_pos ⟨N, A, n, C, rfl⟩]
theorem tabR_inv {v : Value} {y : DataW Value × List MemPlace} (h : tabR v = some y) : ∃ c : Int × Option Addr × Nat × Nat, v = .agg #[.int .i64 c.1, .slice c.2.1 c.2.2.1 c.2.2.2] ∧ y = (.held v, []) := by
  unfold tabR at h
  split at h
  · rename_i hx
    obtain ⟨N, A, n, C, hv⟩ := hx
    exact ⟨(N, A, n, C), hv, (Option.some.inj h).symm⟩
  · cases h
def kl (ws : List Nat) : Lit := .string (kbytes ws)
theorem kl_key (ws : List Nat) : WideAt.IsKeyLit (kl ws) := trivial
theorem kl_inj {xs ys : List Nat} (hx : Small xs) (hy : Small ys) (h : kl xs = kl ys) : xs = ys := by
  unfold kl at h
  injection h with h
  exact kbytes_inj hx hy h
theorem key_of {ws : List Nat} (h1 : ws.length ≤ 1024) : keyOf Try.prog 9 (.string (kstr ws)) = some (kl ws) := by
  have hs : (kstr ws).size ≤ maxLen := by
    show (kbytes ws).toArray.size ≤ 9223372036854775807
    rw [List.size_toArray, kbytes_len]
    omega
  rw [WideMaps.keyOf_string_mk Try.underlying9 hs]
  simp [kstr, kl]
abbrev KS : Keyed Try.prog 9 := string_keyed Try.underlying9
/-- block b is a set of tables of N variables: those of which M holds -/
structure ST (lo : Nat) (w : World) (b n : Nat) (D : DataW Value) (N : Int) (M : List Nat → Prop) : Prop where
  own : w.ownsMap Try.prog 9 tabR b n D
  dom : ∀ k, Maps.has D k = true → ∃ ws, M ws ∧ k = kl ws
  cod : ∀ ws, M ws → Maps.has D (kl ws) = true
  val : ∀ ws, M ws → ∃ A C, (∀ z, D.atKey (kl ws) z = .held (.agg #[.int .i64 N, .slice A ws.length C])) ∧ WL w A ws.length ws ∧ Fresh lo A
  good : ∀ ws, M ws → Small ws ∧ 0 < ws.length ∧ ws.length ≤ 1024
theorem ST.same {lo : Nat} {w w' : World} {b n : Nat} {D : DataW Value} {N : Int} {M : List Nat → Prop} (h : ST lo w b n D N M) (hs : Same w w') : ST lo w' b n D N M :=
  ⟨ownsMap_frm h.own hs id, h.dom, h.cod, fun ws hw => by obtain ⟨A, C, h1, h2, h3⟩ := h.val ws hw; exact ⟨A, C, h1, Sl.same h2 hs, h3⟩, h.good⟩
theorem ST.iff {lo : Nat} {w : World} {b n : Nat} {D : DataW Value} {N : Int} {M M' : List Nat → Prop} (h : ST lo w b n D N M) (hm : ∀ ws, M ws ↔ M' ws) : ST lo w b n D N M' := by
  have : M = M' := funext fun ws => propext (hm ws)
  rw [← this]; exact h
theorem ST.made (lo : Nat) (w : World) (N : Int) : ST lo (w.alloc (.map #[] 0)) w.heap.size 0 (.map []) N (fun _ => False) :=
  ⟨World.ownsMap_made _ _ _ _, fun k hk => (by cases hk), fun ws h => h.elim, fun ws h => h.elim, fun ws h => h.elim⟩
theorem ST.put {lo : Nat} {w w' : World} {b n : Nat} {D : DataW Value} {N : Int} {M : List Nat → Prop} (h : ST lo w b n D N M) {ws : List Nat} {A : Option Addr} {C : Nat} (hw : WL w A ws.length ws) (hfr : Fresh lo A) (hg : Small ws ∧ 0 < ws.length ∧ ws.length ≤ 1024)
    (ho : w'.ownsMap Try.prog 9 tabR b (n + 1) (D.put (kl ws) (.held (.agg #[.int .i64 N, .slice A ws.length C])))) (hf : Frm (fun x => x = b) w w') : ST lo w' b (n + 1) (D.put (kl ws) (.held (.agg #[.int .i64 N, .slice A ws.length C]))) N (fun x => M x ∨ x = ws) := by
  have him : IsMap D := by
    obtain ⟨es, hD, _⟩ := h.own.entries KS
    exact ⟨es, hD⟩
  refine ⟨ho, fun k hk => ?_, fun x hx => ?_, fun x hx => ?_, fun x hx => ?_⟩
  · by_cases he : k = kl ws
    · exact ⟨ws, .inr rfl, he⟩
    · rw [has_put_other he] at hk
      obtain ⟨x, h1, h2⟩ := h.dom k hk
      exact ⟨x, .inl h1, h2⟩
  · by_cases he : kl x = kl ws
    · rw [he]; exact has_put_same him (kl_key ws) _
    · rw [has_put_other he]
      rcases hx with hx | rfl
      · exact h.cod x hx
      · exact absurd rfl he
  · have hxs : Small x := by
      rcases hx with hx | rfl
      · exact (h.good x hx).1
      · exact hg.1
    by_cases he : x = ws
    · subst he
      exact ⟨A, C, fun z => atKey_put_same him (kl_key x) _ z, Sl.turnMap h.own hf ucell_len hw, hfr⟩
    · rcases hx with hx | hx
      · obtain ⟨A1, C1, h1, h2, h3⟩ := h.val x hx
        exact ⟨A1, C1, fun z => by rw [atKey_put_other (fun hk => he (kl_inj hxs hg.1 hk))]; exact h1 z, Sl.turnMap h.own hf ucell_len h2, h3⟩
      · exact absurd hx he
  · rcases hx with hx | rfl
    · exact h.good x hx
    · exact hg
set_option maxRecDepth 100000 in
set_option maxHeartbeats 8000000 in
theorem add_any (lo b n : Nat) (D : DataW Value) (N : Int) (M : List Nat → Prop) (A : Option Addr) (C : Nat) (ws : List Nat) (w : World) (hst : ST lo w b n D N M) (hn : n < maxLen) (h : WL w A ws.length ws) (hfr : Fresh lo A) (hg : Small ws ∧ 0 < ws.length ∧ ws.length ≤ 1024) :
    Calls Try.prog 37 #[.map (some b), .agg #[.int .i64 N, .slice A ws.length C]] w fun e w' => e = .returned (.tuple #[]) ∧ Frm (fun x => x = b) w w' ∧ ∃ D', ST lo w' b (n + 1) D' N (fun x => M x ∨ x = ws) := by
  have HST := Lib.hid hst
  have H := Lib.hid h
  have hg1 := hg.2.1
  have hg2 := hg.2.2
  have hG := Lib.hid hg
  have HFR := Lib.hid hfr
  clear hst h hg hfr
  go_enter Try.func37, Try.ntmps37
  go_upto_region 1 with fail
  refine wp_world fun w1 hw1 => ?_
  have hs1 : Same w w1 := by rw [hw1]; exact (Frm.refl _ _).alloc _
  have hBX : Blk w1 w.heap.size 37 #[.int .i64 N, .slice A ws.length C] := by rw [hw1]; exact Blk.new _ _ _
  have hbX : b < w.heap.size := HST.out.own.lt
  obtain ⟨X, hX⟩ : ∃ z, w.heap.size = z := ⟨_, rfl⟩
  rw [hX] at hBX hbX ⊢
  have cX0 : w1.cell? ⟨X, 0, none⟩ = some (.int .i64 N) := hBX.cell 0
  have cX1 : w1.cell? ⟨X, 1, none⟩ = some (.slice A ws.length C) := hBX.cell 1
  have lX := hBX.lt
  have HS1 := Lib.hid hs1
  clear hw1 hX hs1 hBX
  obtain ⟨S, hS⟩ : ∃ S : Nat → Prop, (fun x => x = b) = S := ⟨_, rfl⟩
  have hSX : ¬ S X := by rw [← hS]; exact fun h => by omega
  have HSS := Lib.hid hS
  clear hS
  refine wp_phS S [([0, 1, 3], 2), ([], 4)] (by kernel_rfl) (by kernel_rfl) ?_
  simp only [wpPh, pick, List.map_cons, List.map_nil, List.getD_cons_zero, List.getD_cons_succ]
  repeat (any_goals (first | go_big_quiet_step (fail) | quiet_step (fail)))
  refine wpQuiet_nil ?_
  obtain ⟨wd, hwd⟩ : ∃ z, z = w1.drew := ⟨_, rfl⟩
  have hsd : Same w1 wd := by rw [hwd]; exact (Frm.refl _ _).drew
  rw [← hwd]
  clear hwd
  refine effStep_plain rfl fun K hK => ?_
  go_simp
  have HSD := Lib.hid (HS1.out.trans hsd (fun _ _ h => h))
  refine (key_any N A C ws wd ⟨Sl.same H.out HSD.out, hG.out.1⟩ hg1 hg2).mono ?_
  rintro e w2 ⟨rfl, hs⟩
  have hf2 : Frm S w1 w2 := (Frm.refl S w1).trans (hsd.trans hs (fun _ _ h => h)) (fun _ _ h => h.elim)
  refine hK _ _ (Lat.mk_ hf2) ?_
  clear hK K
  refine wpQuiet_nil ?_
  have HS2 := Lib.hid (HSD.out.trans hs (fun _ _ h => h))
  have HW2 := Lib.hid (Sl.same H.out HS2.out)
  clear hs hsd
  refine wpList_plain rfl fun K hK => ?_
  refine Own.mapPut (.tmp 4) (.tmp 6) (.tmp 7) 59 rfl 9 37 KS Try.underlying59 tabR b n D rfl (ownsMap_frm HST.out.own HS2.out id) hn (.string (kstr ws)) (.agg #[.int .i64 N, .slice A ws.length C]) (kl ws) rfl rfl (key_of hg2) _ _ (tabR_of _ _ _ _) ?_
  intro w3 ho hgr
  have hf3 : Frm (fun x => x = b) w2 w3 := (Frm.refl (fun x => x = b) w2).grown hgr (fun g hg => .inl (Option.some.inj hg).symm)
  have hst := (HST.out.same HS2.out).put HW2.out HFR.out hG.out ho hf3
  have hfw : Frm (fun x => x = b) w w3 := ((Frm.refl (fun x => x = b) w).trans HS2.out (fun _ _ h => h.elim)).trans hf3 (fun _ _ h => h)
  refine hK _ _ ?_
  clear hK K ho hgr hf3
  have HF := Lib.hid hfw
  have HT := Lib.hid hst
  clear hfw hst
  go_wp2
  go_end0
  exact ⟨rfl, HF.out, _, HT.out⟩
end Go.Proofs.Ytakepdkokjecoaa


/- Truth tables: laid of the program. -/
namespace Go.Proofs.Ytakepdkokjecoaa
open Go.RowKit Go.Tk

/-- a table of words of its own -/
def NewT (w : World) (ws : List Nat) (A : Option Addr) (C : Nat) (w' : World) : Prop := OwnW w' A ws.length C ws ∧ Fresh w.heap.size A ∧ Same w w'
def RetT (w : World) (N : Int) (ws : List Nat) (e : Ending) (w' : World) : Prop := ∃ A C, e = .returned (.agg #[.int .i64 N, .slice A ws.length C]) ∧ NewT w ws A C w'
def RetTE (w : World) (N : Int) (ws : List Nat) (err : Int) (e : Ending) (w' : World) : Prop := ∃ A C, e = .returned (.tuple #[.agg #[.int .i64 N, .slice A ws.length C], .int .i64 err]) ∧ NewT w ws A C w'
theorem NewT.nil {w w' : World} (h : Same w w') : NewT w [] none 0 w' := ⟨Own.nil _ _ _ _, fresh_none _, h⟩
theorem NewT.wl {w w' : World} {ws : List Nat} {A : Option Addr} {C : Nat} (h : NewT w ws A C w') : WL w' A ws.length ws := h.1.sl ucell_len
theorem info_u64 : (Try.prog.info? 30).map (fun i => (i.zero, i.size, i.bytes)) = some (some (.int .u64 0), 1, 8) := by kernel_rfl
/-- words laid so far -/
def laidL (n : Nat) (g : Nat → Nat) (k : Nat) : List Nat := (List.range (nw n)).map fun i => if i < k then g i &&& fullN n else 0
theorem laidL_len (n : Nat) (g : Nat → Nat) (k : Nat) : (laidL n g k).length = nw n := by simp [laidL]
theorem laidL_zero (n : Nat) (g : Nat → Nat) : laidL n g 0 = List.replicate (nw n) 0 := by
  apply List.ext_getElem?
  intro i
  rcases Nat.lt_or_ge i (nw n) with h | h
  · simp [laidL, h]
  · rw [List.getElem?_eq_none (by rw [laidL_len]; exact h), List.getElem?_eq_none (by simpa using h)]
theorem laidL_set {n : Nat} {g : Nat → Nat} {k : Nat} (h : k < nw n) : (laidL n g k).set k (g k &&& fullN n) = laidL n g (k + 1) := by
  apply List.ext_getElem?
  intro i
  rcases Nat.lt_or_ge i (nw n) with hi | hi
  · rw [List.getElem?_set, laidL_len]
    simp only [laidL, List.getElem?_map, List.getElem?_range hi, Option.map_some]
    split
    · rename_i he; subst he; simp
    · rename_i he
      congr 1
      by_cases h1 : i < k
      · rw [if_pos h1, if_pos (by omega)]
      · rw [if_neg h1, if_neg (by omega)]
  · rw [List.getElem?_eq_none (by simp [laidL_len, hi]), List.getElem?_eq_none (by rw [laidL_len]; exact hi)]
theorem laidL_full (n : Nat) (g : Nat → Nat) : laidL n g (nw n) = (List.range (nw n)).map fun i => g i &&& fullN n := by
  unfold laidL
  apply List.map_congr_left
  intro i hi
  rw [if_pos (List.mem_range.1 hi)]
/-- a closure that tells the words -/
def Tells (w : World) (n : Nat) (fid : FuncId) (caps : Array Value) (g : Nat → Nat) : Prop :=
  ∀ i : Nat, i < nw n → g i < 18446744073709551616 ∧ ∀ w', Same w w' → Calls Try.prog fid (#[.int .i64 i] ++ caps) w' fun e w'' => e = .returned (.int .u64 (g i : Nat)) ∧ Same w' w''

theorem wp_post {P : Program} {fn : Func} {R : Ending → World → Prop} {x : Exit} {a : Act} {w : World} (h : ∀ w1, w1 = w → bodyPost P fn R x a w1) : bodyPost P fn R x a w := h w rfl
set_option maxHeartbeats 4000000 in
theorem laid_any (n : Nat) (fid : FuncId) (caps : Array Value) (g : Nat → Nat) (w : World) (hn : n ≤ 16) (hen : ∀ (args : Array Value) (w : World), (callFunc fid args).run Try.prog w = .ok (.enter fid args) w) (hcl : Tells w n fid caps g) :
    Calls Try.prog 30 #[.int .i64 n, .func (.func fid) #[] caps] w (RetT w n ((List.range (nw n)).map fun i => g i &&& fullN n)) := by
  have hmk := fun w => run_make_n (P := Try.prog) Try.underlying35 info_u64 .i64 .i64 (nw n) (show 8 * nw n ≤ 281474976710656 by have := nw_le hn; omega) (show nw n ≤ 9223372036854775807 by have := nw_le hn; omega) w
  have HCL := Lib.hid hcl
  have hnl := nw_le hn
  have hwd := fun w => words_any n w hn
  have hfu := fun w => full_any n w hn
  have hfl := fullN_lt n
  have hrl := laidL_full n g
  have HRL := Lib.hid hrl
  have hset : ∀ k, k < nw n → (laidL n g k).set k (g k &&& fullN n) = laidL n g (k + 1) := fun k h => laidL_set h
  have hll := laidL_len n g
  have hcl' := hcl
  have hz := laidL_zero n g
  unfold Tells at hcl'
  rw [← hrl]
  obtain ⟨K, hK⟩ : ∃ K, nw n = K := ⟨_, rfl⟩
  obtain ⟨fu, hfu'⟩ : ∃ fu, fullN n = fu := ⟨_, rfl⟩
  rw [hK] at hmk hnl hwd hset hll hcl' hz ⊢
  rw [hfu'] at hfu hfl hset
  have HLL := Lib.hid hll
  have HZ := Lib.hid hz
  have HSET := Lib.hid hset
  have HWD := Lib.hid hwd
  have HFU := Lib.hid hfu
  have HC := Lib.hid hcl'
  clear hwd hfu hrl hset hcl' hcl HCL hK hfu' HRL hll hz
  go_enter Try.func30, Try.ntmps30
  go_wp2_with (fail)
  refine call_world fun w1 hw1 => ?_
  refine (HWD.out w1).mono ?_
  rintro e w2 ⟨rfl, rfl⟩
  go_upto_region 2 with fail
  refine wp_world fun wb hwb => ?_
  subst hw1
  have hsb : Same w wb := by rw [hwb]; exact (((Frm.refl _ _).alloc _).alloc _).alloc _
  have hBR : Blk wb w.heap.size 37 #[.int .i64 0, .slice none 0 0] := by rw [hwb]; exact ((Blk.new w _ _).alloc _).alloc _
  have hBT : Blk wb (w.heap.size + 1 + 1) 37 #[.int .i64 n, .slice (some ⟨w.heap.size + 1, 0, none⟩) K K] := by
    rw [hwb]
    have := Blk.new ((w.alloc (.cells #[.int .i64 0, .slice none 0 0] 37)).alloc (.cells (madeCells #[.int .u64 0] K) 30)) 37 #[.int .i64 n, .slice (some ⟨w.heap.size + 1, 0, none⟩) K K]
    simpa using this
  have hOD : OwnW wb (some ⟨w.heap.size + 1, 0, none⟩) K K (laidL n g 0) := by
    rw [hwb, HZ.out]
    have := Own.ofMade (m := 1) (w.alloc (.cells #[.int .i64 0, .slice none 0 0] 37)) 30 ucell (fun _ => rfl) (by decide) 0 K (show K ≤ 9223372036854775807 by omega) rfl
    have h2 := Own.frm this ((Frm.refl (fun _ => False) _).alloc (.cells #[.int .i64 n, .slice (some ⟨w.heap.size + 1, 0, none⟩) K K] 37)) (fun _ _ => id)
    simpa [ucell] using h2
  clear hwb hmk
  obtain ⟨T, hT⟩ : ∃ T, w.heap.size + 1 + 1 = T := ⟨_, rfl⟩
  rw [hT] at hBT ⊢
  obtain ⟨D, hD⟩ : ∃ D, w.heap.size + 1 = D := ⟨_, rfl⟩
  rw [hD] at hBT hOD ⊢
  have hnDT : D ≠ T := by omega
  have hnRT : w.heap.size ≠ T := by omega
  have hnRD : w.heap.size ≠ D := by omega
  have hwD : w.heap.size ≤ D := by omega
  have hwT : w.heap.size ≤ T := by omega
  clear hD hT
  have hc1 : wb.cell? ⟨T, 1, none⟩ = some (.slice (some ⟨D, 0, none⟩) K K) := hBT.cell 1
  have hlt0 := hBT.lt
  have HBR := Lib.hid hBR
  have HBT := Lib.hid hBT
  have HOD := Lib.hid hOD
  have HSB := Lib.hid hsb
  clear hBR hBT hOD hsb
  go_wp2
  go_loopw [15] (fun i wr => ∃ k : Nat, k ≤ K ∧ i = .int .i64 k ∧ Same w wr ∧ Blk wr w.heap.size 37 #[.int .i64 0, .slice none 0 0] ∧ Blk wr T 37 #[.int .i64 n, .slice (some ⟨D, 0, none⟩) K K] ∧ OwnW wr (some ⟨D, 0, none⟩) K K (laidL n g k)) (fun i _ => K - (intOf i).toNat)
  case atStart => exact ⟨0, by omega, rfl, HSB.out, HBR.out, HBT.out, HOD.out⟩
  case round =>
    clear HBR HBT HOD HSB hc1 hlt0
    obtain ⟨k, hk, rfl, hs, hBR, hBT, hOD⟩ := hrel
    have HS := Lib.hid hs
    have HBR := Lib.hid hBR
    have HBT := Lib.hid hBT
    have HOD := Lib.hid hOD
    have hcT0 : wr.cell? ⟨T, 0, none⟩ = some (.int .i64 n) := hBT.cell 0
    have hcT : wr.cell? ⟨T, 1, none⟩ = some (.slice (some ⟨D, 0, none⟩) K K) := hBT.cell 1
    have hTl := hBT.lt
    have hRl := hBR.lt
    have hfR0 := hBR.free 0
    have hfR1 := hBR.free 1
    have hcR0 : wr.cell? ⟨w.heap.size, 0, none⟩ = some (.int .i64 0) := hBR.cell 0
    have hcR1 : wr.cell? ⟨w.heap.size, 1, none⟩ = some (.slice none 0 0) := hBR.cell 1
    by_cases hlt : k < K
    · have hi1 : (k : Int) < K := by omega
      have hi0 : (0 : Int) ≤ k := by omega
      obtain ⟨x, hx⟩ : ∃ x, (laidL n g k)[k]? = some x := ⟨_, List.getElem?_eq_getElem (by rw [HLL.out]; exact hlt)⟩
      obtain ⟨sb, hsb, hDl, hcD⟩ := hOD.at1 (c := fun x : Nat => .int .u64 (x : Int)) hx
      injection hsb with hsb
      injection hsb with hsb
      subst hsb
      have hfD := Own.free hOD k
      obtain ⟨hgl, hgc⟩ := HC.out k hlt
      obtain ⟨gk, hgk⟩ : ∃ gk, g k = gk := ⟨_, rfl⟩
      have hst := fun (w' : World) (hs' : Same wr w') => Own.put1 (c := fun x : Nat => .int .u64 (x : Int)) (Own.frm hOD hs' (fun _ _ => id)) (i := k) (by rw [HLL.out]; exact hlt) (g k &&& fu)
      rw [HSET.out k hlt] at hst
      rw [hgk] at hgl hgc hst
      have hand := u64_and_nat gk fu hgl hfl
      have HGC := Lib.hid (fun w' (h : Same wr w') => hgc w' (hs.trans h (fun _ _ h => h)))
      have HST := Lib.hid hst
      clear hs hBR hBT hOD hx hgc hgk hst
      go_upto_region 5 with fail
      refine wp_quiet_tail 10 (by kernel_rfl) (by kernel_rfl) ?_
      simp only [List.take_succ_cons, List.take_zero, List.drop_succ_cons, List.drop_zero]
      repeat (any_goals (first | go_big_quiet_step (first | (go_at_call 41; exact quiet_call ((HFU.out _).mono fun e w' h => ⟨h.1, h.2 ▸ Frm.refl _ _⟩)) | exact quiet_call (HGC.out _ (more_same _ _))) | quiet_step (first | (go_at_call 41; exact quiet_call ((HFU.out _).mono fun e w' h => ⟨h.1, h.2 ▸ Frm.refl _ _⟩)) | exact quiet_call (HGC.out _ (more_same _ _)))))
      refine wpQuiet_nil ?_
      rintro wz ⟨q, hq⟩
      have hsz : Same wr wz := by rw [hq]; exact more_same _ q
      have hfz := Own.free (Own.frm HOD.out hsz (fun _ _ => id)) k
      have hcz := (hsz.cell (p := ⟨D, k, none⟩) hDl id).trans hcD
      have HSZ := Lib.hid ((HS.out.trans hsz (fun _ _ h => h)).setNew (g := D) k (.int .u64 ((gk &&& fu : Nat) : Int)) hwD)
      have HBRz := Lib.hid ((HBR.out.frm hsz id).far (p := ⟨D, k, none⟩) hnRD (.int .u64 ((gk &&& fu : Nat) : Int)))
      have HBTz := Lib.hid ((HBT.out.frm hsz id).far (p := ⟨D, k, none⟩) (Ne.symm hnDT) (.int .u64 ((gk &&& fu : Nat) : Int)))
      have HOZ := Lib.hid (HST.out wz hsz)
      have hDz : D < wz.heap.size := by have := hsz.size; omega
      clear hq hsz hcD hfD hDl hcT0 hcT hcR0 hcR1 hfR0 hfR1 hTl hRl hen
      go_wp2
      go_roundw
      case rel => exact ⟨k + 1, by omega, by go_num, HSZ.out, HBRz.out, HBTz.out, HOZ.out⟩
      case measure => simp [intOf] <;> omega
    · obtain rfl : k = K := by omega
      clear hs hBR hBT hOD
      go_wp2
      refine wp_post fun we hwe => ?_
      have hBE : Blk we w.heap.size 37 #[.int .i64 n, .slice (some ⟨D, 0, none⟩) k k] := by
        rw [hwe]
        have := (HBR.out.set 0 (.int .i64 n)).set 1 (.slice (some ⟨D, 0, none⟩) k k)
        simpa using this
      have hOE : OwnW we (some ⟨D, 0, none⟩) k k (laidL n g k) := by
        rw [hwe]
        exact (Own.far (p := ⟨w.heap.size, 0, none⟩) HOD.out (fun a ha h => by injection ha with ha; subst ha; exact hnRD h.symm) _).far (p := ⟨w.heap.size, 1, none⟩) (fun a ha h => by injection ha with ha; subst ha; exact hnRD h.symm) _
      have hSE : Same w we := by rw [hwe]; exact (HS.out.setNew 0 _ (Nat.le_refl _)).setNew 1 _ (Nat.le_refl _)
      have hc0 : we.cell? ⟨w.heap.size, 0, none⟩ = some (.int .i64 n) := hBE.cell 0
      have hc1 : we.cell? ⟨w.heap.size, 1, none⟩ = some (.slice (some ⟨D, 0, none⟩) k k) := hBE.cell 1
      clear hwe hBE
      refine bodyPost_ret (v := .agg #[.int .i64 n, .slice (some ⟨D, 0, none⟩) k k]) (by simp [results, Try.results30, go_sem, hc0, hc1]) rfl ?_
      refine ⟨some ⟨D, 0, none⟩, k, by rw [HLL.out], ?_, fresh_some hwD, hSE⟩
      rw [HLL.out]
      exact hOE
end Go.Proofs.Ytakepdkokjecoaa


/- Truth tables: column of the program. -/
namespace Go.Proofs.Ytakepdkokjecoaa
open Go.RowKit Go.Tk

theorem i64_and_nat (a b : Nat) (ha : a < 9223372036854775808) (hb : b < 9223372036854775808) : bits .and .i64 (a : Int) (b : Int) = ((a &&& b : Nat) : Int) := by
  have hx : a &&& b < 2 ^ 63 := Nat.and_lt_two_pow _ (by omega)
  show IntKind.i64.wrap ((BitVec.ofInt 64 (a : Int) &&& BitVec.ofInt 64 (b : Int)).toNat : Int) = _
  rw [BitVec.toNat_and, ofInt_u64 a (by omega), ofInt_u64 b (by omega)]
  exact IntWalk.i64_in _ (by omega)
theorem i64_or_nat (a b : Nat) (ha : a < 9223372036854775808) (hb : b < 9223372036854775808) : bits .or .i64 (a : Int) (b : Int) = ((a ||| b : Nat) : Int) := by
  have hx : a ||| b < 2 ^ 63 := Nat.or_lt_two_pow (by omega) (by omega)
  show IntKind.i64.wrap ((BitVec.ofInt 64 (a : Int) ||| BitVec.ofInt 64 (b : Int)).toNat : Int) = _
  rw [BitVec.toNat_or, ofInt_u64 a (by omega), ofInt_u64 b (by omega)]
  exact IntWalk.i64_in _ (by omega)
theorem i64_andNot_nat (a b : Nat) (ha : a < 9223372036854775808) (hb : b < 9223372036854775808) : bits .andNot .i64 (a : Int) (b : Int) = ((a &&& (18446744073709551615 - b) : Nat) : Int) := by
  have hx : a &&& (18446744073709551615 - b) < 2 ^ 63 := Nat.lt_of_le_of_lt Nat.and_le_left (by omega)
  show IntKind.i64.wrap ((BitVec.ofInt 64 (a : Int) &&& ~~~BitVec.ofInt 64 (b : Int)).toNat : Int) = _
  rw [BitVec.toNat_and, BitVec.toNat_not, ofInt_u64 a (by omega), ofInt_u64 b (by omega)]
  have e : 2 ^ 64 - 1 - b = 18446744073709551615 - b := by omega
  rw [e]
  exact IntWalk.i64_in _ (by omega)
theorem bsum_or (F : Nat → Bool) (j : Nat) : bsum F j ||| (if F j then 2 ^ j else 0) = bsum F (j + 1) := by
  have h := bsum_lt F j
  rw [bsum]
  cases hF : F j with
  | false => simp
  | true =>
    have h2 := Nat.two_pow_add_eq_or_of_lt h 1
    rw [Nat.mul_one] at h2
    simp only [if_true]
    rw [Nat.or_comm, ← h2, Nat.add_comm]
/-- the word i of the variable v -/
def colN (v i : Nat) : Nat := if v < 6 then bsum (fun j => j.testBit v) 64 else if i.testBit (v - 6) then 18446744073709551615 else 0
theorem colN_lt (v i : Nat) : colN v i < 18446744073709551616 := by
  unfold colN
  split
  · exact bsum_lt _ 64
  · split <;> omega
theorem colN_bit {v i j : Nat} (hj : j < 64) : (colN v i).testBit j = (64 * i + j).testBit v := by
  have h := Nat.testBit_two_pow_mul_add i (show j < 2 ^ 6 from hj) v
  rw [show (64 : Nat) * i + j = 2 ^ 6 * i + j from rfl, h]
  unfold colN
  by_cases h6 : v < 6
  · rw [if_pos h6, if_pos h6, bsum_bit]
    simp [hj]
  · rw [if_neg h6, if_neg h6]
    cases i.testBit (v - 6) with
    | false => simp
    | true =>
      rw [if_pos rfl, show (18446744073709551615 : Nat) = 2 ^ 64 - 1 by decide, Nat.testBit_two_pow_sub_one]
      simpa using hj
theorem testBit_dm (x k : Nat) : x.testBit k = decide (x / 2 ^ k % 2 = 1) := by
  rw [Nat.testBit_eq_decide_div_mod_eq]
theorem colN_top (k i : Nat) (hi : i < 1024) : IntKind.u64.wrap (-bits .and .u64 ((i : Int) / ((2 ^ k : Nat) : Int)) 1) = ((colN (6 + k) i : Nat) : Int) := by
  have h1 : i / 2 ^ k ≤ i := Nat.div_le_self _ _
  have h2 : ((i : Int) / ((2 ^ k : Nat) : Int)) = ((i / 2 ^ k : Nat) : Int) := (Int.natCast_ediv i (2 ^ k)).symm
  have h3 := u64_and_nat (i / 2 ^ k) 1 (by omega) (by omega)
  rw [nat_mask1] at h3
  rw [h2, show (1 : Int) = ((1 : Nat) : Int) from rfl, h3]
  unfold colN
  rw [if_neg (by omega), show 6 + k - 6 = k by omega, testBit_dm]
  generalize i / 2 ^ k = x
  rcases Nat.mod_two_eq_zero_or_one x with h | h
  · rw [h]; decide
  · rw [h]; decide
theorem col_step (F : Nat → Bool) (k m : Nat) (hm : m < 64) (hF : F = fun j : Nat => j.testBit k) :
    bits .and .i64 ((m : Int) / ((2 ^ k : Nat) : Int)) 1 = ((m / 2 ^ k % 2 : Nat) : Int) ∧ IntKind.u64.wrap ((m / 2 ^ k % 2 : Nat) : Int) = ((m / 2 ^ k % 2 : Nat) : Int) ∧
    IntKind.u64.wrap (((m / 2 ^ k % 2 : Nat) : Int) * 2 ^ m) = (((if F m then 2 ^ m else 0) : Nat) : Int) ∧ bits .or .u64 (bsum F m : Nat) (((if F m then 2 ^ m else 0) : Nat) : Int) = (bsum F (m + 1) : Nat) := by
  have h1 : m / 2 ^ k ≤ m := Nat.div_le_self _ _
  have h2 : ((m : Int) / ((2 ^ k : Nat) : Int)) = ((m / 2 ^ k : Nat) : Int) := (Int.natCast_ediv m (2 ^ k)).symm
  have h3 := i64_and_nat (m / 2 ^ k) 1 (by omega) (by omega)
  rw [nat_mask1] at h3
  have hFm : F m = decide (m / 2 ^ k % 2 = 1) := by rw [hF]; exact testBit_dm m k
  have hp : 2 ^ m ≤ 2 ^ 63 := Nat.pow_le_pow_right (by omega) (by omega)
  have hb := bsum_lt F m
  have ho := bsum_or F m
  refine ⟨by rw [h2, show (1 : Int) = ((1 : Nat) : Int) from rfl, h3], IntWalk.u64_in _ (by omega), ?_, ?_⟩
  · rw [hFm, pow_int]
    generalize 2 ^ m = p at hp
    rcases Nat.mod_two_eq_zero_or_one (m / 2 ^ k) with h | h
    · rw [h]; simp; decide
    · rw [h]; simp; exact IntWalk.u64_in _ (by omega)
  · rw [← ho]
    refine u64_or_nat _ _ (by omega) ?_
    split <;> omega
set_option maxHeartbeats 4000000 in
theorem column_any (v i : Nat) (w : World) (hv : v < 16) (hi : i < 1024) : Calls Try.prog 48 #[.int .i64 v, .int .i64 i] w fun e w' => e = .returned (.int .u64 (colN v i : Nat)) ∧ w = w' := by
  by_cases h6 : 6 ≤ v
  · obtain rfl | rfl | rfl | rfl | rfl | rfl | rfl | rfl | rfl | rfl : v = 6 ∨ v = 7 ∨ v = 8 ∨ v = 9 ∨ v = 10 ∨ v = 11 ∨ v = 12 ∨ v = 13 ∨ v = 14 ∨ v = 15 := by omega
    · go_enter Try.func48, Try.ntmps48
      go_wp2
      go_ret
      have h := colN_top 0 i hi
      rw [Nat.pow_zero, show ((1 : Nat) : Int) = 1 from rfl, Int.ediv_one] at h
      exact ⟨ret_int h, rfl⟩
    · go_enter Try.func48, Try.ntmps48
      go_wp2
      go_ret
      exact ⟨ret_int (colN_top 1 i hi), rfl⟩
    · go_enter Try.func48, Try.ntmps48
      go_wp2
      go_ret
      exact ⟨ret_int (colN_top 2 i hi), rfl⟩
    · go_enter Try.func48, Try.ntmps48
      go_wp2
      go_ret
      exact ⟨ret_int (colN_top 3 i hi), rfl⟩
    · go_enter Try.func48, Try.ntmps48
      go_wp2
      go_ret
      exact ⟨ret_int (colN_top 4 i hi), rfl⟩
    · go_enter Try.func48, Try.ntmps48
      go_wp2
      go_ret
      exact ⟨ret_int (colN_top 5 i hi), rfl⟩
    · go_enter Try.func48, Try.ntmps48
      go_wp2
      go_ret
      exact ⟨ret_int (colN_top 6 i hi), rfl⟩
    · go_enter Try.func48, Try.ntmps48
      go_wp2
      go_ret
      exact ⟨ret_int (colN_top 7 i hi), rfl⟩
    · go_enter Try.func48, Try.ntmps48
      go_wp2
      go_ret
      exact ⟨ret_int (colN_top 8 i hi), rfl⟩
    · go_enter Try.func48, Try.ntmps48
      go_wp2
      go_ret
      exact ⟨ret_int (colN_top 9 i hi), rfl⟩
  · obtain rfl | rfl | rfl | rfl | rfl | rfl : v = 0 ∨ v = 1 ∨ v = 2 ∨ v = 3 ∨ v = 4 ∨ v = 5 := by omega
    · obtain ⟨F, hF⟩ : ∃ F, (fun j : Nat => j.testBit 0) = F := ⟨_, rfl⟩
      have hfin : bsum F 64 = colN 0 i := by rw [← hF]; rfl
      have HF := Lib.hid hF
      have HFIN := Lib.hid hfin
      clear hF hfin h6 hv
      go_enter Try.func48, Try.ntmps48
      go_wp2
      go_loopw [5, 16] (fun s j wr => ∃ m : Nat, m ≤ 64 ∧ j = .int .i64 m ∧ s = .int .u64 (bsum F m : Nat) ∧ w = wr) (fun _ j _ => 64 - (intOf j).toNat)
      case atStart => exact ⟨0, by omega, rfl, rfl, rfl⟩
      case round =>
        obtain ⟨m, hm, rfl, rfl, rfl⟩ := hrel
        by_cases hlt : m < 64
        · have hm1 : (m : Int) < 64 := by omega
          have hm0 : (0 : Int) ≤ m := by omega
          obtain ⟨hq1, hq2, hq3, hq4⟩ := col_step F 0 m hlt HF.out.symm
          generalize m / 2 ^ 0 % 2 = r at hq1 hq2 hq3
          generalize (if F m then 2 ^ m else 0) = p at hq3 hq4
          have hq5 : bits .and .i64 (m : Int) 1 = (r : Int) := by rw [Nat.pow_zero, show ((1 : Nat) : Int) = 1 from rfl, Int.ediv_one] at hq1; exact hq1
          clear hq1
          go_upto_region 7 with fail
          refine wp_read 9 ?_
          simp only [List.take_succ_cons, List.take_zero, List.drop_succ_cons, List.drop_zero]
          repeat (any_goals (first | go_big_quiet_step (fail) | quiet_step (fail)))
          refine wpQuiet_nil ?_
          clear hq2 hq3 hq4 hq5
          go_wp2
          go_roundw
          case rel => exact ⟨m + 1, by omega, by go_num, rfl, trivial⟩
          case measure => simp [intOf] <;> omega
        · obtain rfl : m = 64 := by omega
          rw [HFIN.out]
          go_wp2
          go_ret
          exact ⟨rfl, rfl⟩
    · obtain ⟨F, hF⟩ : ∃ F, (fun j : Nat => j.testBit 1) = F := ⟨_, rfl⟩
      have hfin : bsum F 64 = colN 1 i := by rw [← hF]; rfl
      have HF := Lib.hid hF
      have HFIN := Lib.hid hfin
      clear hF hfin h6 hv
      go_enter Try.func48, Try.ntmps48
      go_wp2
      go_loopw [5, 16] (fun s j wr => ∃ m : Nat, m ≤ 64 ∧ j = .int .i64 m ∧ s = .int .u64 (bsum F m : Nat) ∧ w = wr) (fun _ j _ => 64 - (intOf j).toNat)
      case atStart => exact ⟨0, by omega, rfl, rfl, rfl⟩
      case round =>
        obtain ⟨m, hm, rfl, rfl, rfl⟩ := hrel
        by_cases hlt : m < 64
        · have hm1 : (m : Int) < 64 := by omega
          have hm0 : (0 : Int) ≤ m := by omega
          obtain ⟨hq1, hq2, hq3, hq4⟩ := col_step F 1 m hlt HF.out.symm
          generalize m / 2 ^ 1 % 2 = r at hq1 hq2 hq3
          generalize (if F m then 2 ^ m else 0) = p at hq3 hq4
          have hq5 : bits .and .i64 ((m : Int) / 2) 1 = (r : Int) := hq1
          clear hq1
          go_upto_region 7 with fail
          refine wp_read 9 ?_
          simp only [List.take_succ_cons, List.take_zero, List.drop_succ_cons, List.drop_zero]
          repeat (any_goals (first | go_big_quiet_step (fail) | quiet_step (fail)))
          refine wpQuiet_nil ?_
          clear hq2 hq3 hq4 hq5
          go_wp2
          go_roundw
          case rel => exact ⟨m + 1, by omega, by go_num, rfl, trivial⟩
          case measure => simp [intOf] <;> omega
        · obtain rfl : m = 64 := by omega
          rw [HFIN.out]
          go_wp2
          go_ret
          exact ⟨rfl, rfl⟩
    · obtain ⟨F, hF⟩ : ∃ F, (fun j : Nat => j.testBit 2) = F := ⟨_, rfl⟩
      have hfin : bsum F 64 = colN 2 i := by rw [← hF]; rfl
      have HF := Lib.hid hF
      have HFIN := Lib.hid hfin
      clear hF hfin h6 hv
      go_enter Try.func48, Try.ntmps48
      go_wp2
      go_loopw [5, 16] (fun s j wr => ∃ m : Nat, m ≤ 64 ∧ j = .int .i64 m ∧ s = .int .u64 (bsum F m : Nat) ∧ w = wr) (fun _ j _ => 64 - (intOf j).toNat)
      case atStart => exact ⟨0, by omega, rfl, rfl, rfl⟩
      case round =>
        obtain ⟨m, hm, rfl, rfl, rfl⟩ := hrel
        by_cases hlt : m < 64
        · have hm1 : (m : Int) < 64 := by omega
          have hm0 : (0 : Int) ≤ m := by omega
          obtain ⟨hq1, hq2, hq3, hq4⟩ := col_step F 2 m hlt HF.out.symm
          generalize m / 2 ^ 2 % 2 = r at hq1 hq2 hq3
          generalize (if F m then 2 ^ m else 0) = p at hq3 hq4
          have hq5 : bits .and .i64 ((m : Int) / 4) 1 = (r : Int) := hq1
          clear hq1
          go_upto_region 7 with fail
          refine wp_read 9 ?_
          simp only [List.take_succ_cons, List.take_zero, List.drop_succ_cons, List.drop_zero]
          repeat (any_goals (first | go_big_quiet_step (fail) | quiet_step (fail)))
          refine wpQuiet_nil ?_
          clear hq2 hq3 hq4 hq5
          go_wp2
          go_roundw
          case rel => exact ⟨m + 1, by omega, by go_num, rfl, trivial⟩
          case measure => simp [intOf] <;> omega
        · obtain rfl : m = 64 := by omega
          rw [HFIN.out]
          go_wp2
          go_ret
          exact ⟨rfl, rfl⟩
    · obtain ⟨F, hF⟩ : ∃ F, (fun j : Nat => j.testBit 3) = F := ⟨_, rfl⟩
      have hfin : bsum F 64 = colN 3 i := by rw [← hF]; rfl
      have HF := Lib.hid hF
      have HFIN := Lib.hid hfin
      clear hF hfin h6 hv
      go_enter Try.func48, Try.ntmps48
      go_wp2
      go_loopw [5, 16] (fun s j wr => ∃ m : Nat, m ≤ 64 ∧ j = .int .i64 m ∧ s = .int .u64 (bsum F m : Nat) ∧ w = wr) (fun _ j _ => 64 - (intOf j).toNat)
      case atStart => exact ⟨0, by omega, rfl, rfl, rfl⟩
      case round =>
        obtain ⟨m, hm, rfl, rfl, rfl⟩ := hrel
        by_cases hlt : m < 64
        · have hm1 : (m : Int) < 64 := by omega
          have hm0 : (0 : Int) ≤ m := by omega
          obtain ⟨hq1, hq2, hq3, hq4⟩ := col_step F 3 m hlt HF.out.symm
          generalize m / 2 ^ 3 % 2 = r at hq1 hq2 hq3
          generalize (if F m then 2 ^ m else 0) = p at hq3 hq4
          have hq5 : bits .and .i64 ((m : Int) / 8) 1 = (r : Int) := hq1
          clear hq1
          go_upto_region 7 with fail
          refine wp_read 9 ?_
          simp only [List.take_succ_cons, List.take_zero, List.drop_succ_cons, List.drop_zero]
          repeat (any_goals (first | go_big_quiet_step (fail) | quiet_step (fail)))
          refine wpQuiet_nil ?_
          clear hq2 hq3 hq4 hq5
          go_wp2
          go_roundw
          case rel => exact ⟨m + 1, by omega, by go_num, rfl, trivial⟩
          case measure => simp [intOf] <;> omega
        · obtain rfl : m = 64 := by omega
          rw [HFIN.out]
          go_wp2
          go_ret
          exact ⟨rfl, rfl⟩
    · obtain ⟨F, hF⟩ : ∃ F, (fun j : Nat => j.testBit 4) = F := ⟨_, rfl⟩
      have hfin : bsum F 64 = colN 4 i := by rw [← hF]; rfl
      have HF := Lib.hid hF
      have HFIN := Lib.hid hfin
      clear hF hfin h6 hv
      go_enter Try.func48, Try.ntmps48
      go_wp2
      go_loopw [5, 16] (fun s j wr => ∃ m : Nat, m ≤ 64 ∧ j = .int .i64 m ∧ s = .int .u64 (bsum F m : Nat) ∧ w = wr) (fun _ j _ => 64 - (intOf j).toNat)
      case atStart => exact ⟨0, by omega, rfl, rfl, rfl⟩
      case round =>
        obtain ⟨m, hm, rfl, rfl, rfl⟩ := hrel
        by_cases hlt : m < 64
        · have hm1 : (m : Int) < 64 := by omega
          have hm0 : (0 : Int) ≤ m := by omega
          obtain ⟨hq1, hq2, hq3, hq4⟩ := col_step F 4 m hlt HF.out.symm
          generalize m / 2 ^ 4 % 2 = r at hq1 hq2 hq3
          generalize (if F m then 2 ^ m else 0) = p at hq3 hq4
          have hq5 : bits .and .i64 ((m : Int) / 16) 1 = (r : Int) := hq1
          clear hq1
          go_upto_region 7 with fail
          refine wp_read 9 ?_
          simp only [List.take_succ_cons, List.take_zero, List.drop_succ_cons, List.drop_zero]
          repeat (any_goals (first | go_big_quiet_step (fail) | quiet_step (fail)))
          refine wpQuiet_nil ?_
          clear hq2 hq3 hq4 hq5
          go_wp2
          go_roundw
          case rel => exact ⟨m + 1, by omega, by go_num, rfl, trivial⟩
          case measure => simp [intOf] <;> omega
        · obtain rfl : m = 64 := by omega
          rw [HFIN.out]
          go_wp2
          go_ret
          exact ⟨rfl, rfl⟩
    · obtain ⟨F, hF⟩ : ∃ F, (fun j : Nat => j.testBit 5) = F := ⟨_, rfl⟩
      have hfin : bsum F 64 = colN 5 i := by rw [← hF]; rfl
      have HF := Lib.hid hF
      have HFIN := Lib.hid hfin
      clear hF hfin h6 hv
      go_enter Try.func48, Try.ntmps48
      go_wp2
      go_loopw [5, 16] (fun s j wr => ∃ m : Nat, m ≤ 64 ∧ j = .int .i64 m ∧ s = .int .u64 (bsum F m : Nat) ∧ w = wr) (fun _ j _ => 64 - (intOf j).toNat)
      case atStart => exact ⟨0, by omega, rfl, rfl, rfl⟩
      case round =>
        obtain ⟨m, hm, rfl, rfl, rfl⟩ := hrel
        by_cases hlt : m < 64
        · have hm1 : (m : Int) < 64 := by omega
          have hm0 : (0 : Int) ≤ m := by omega
          obtain ⟨hq1, hq2, hq3, hq4⟩ := col_step F 5 m hlt HF.out.symm
          generalize m / 2 ^ 5 % 2 = r at hq1 hq2 hq3
          generalize (if F m then 2 ^ m else 0) = p at hq3 hq4
          have hq5 : bits .and .i64 ((m : Int) / 32) 1 = (r : Int) := hq1
          clear hq1
          go_upto_region 7 with fail
          refine wp_read 9 ?_
          simp only [List.take_succ_cons, List.take_zero, List.drop_succ_cons, List.drop_zero]
          repeat (any_goals (first | go_big_quiet_step (fail) | quiet_step (fail)))
          refine wpQuiet_nil ?_
          clear hq2 hq3 hq4 hq5
          go_wp2
          go_roundw
          case rel => exact ⟨m + 1, by omega, by go_num, rfl, trivial⟩
          case measure => simp [intOf] <;> omega
        · obtain rfl : m = 64 := by omega
          rw [HFIN.out]
          go_wp2
          go_ret
          exact ⟨rfl, rfl⟩
end Go.Proofs.Ytakepdkokjecoaa


/- Truth tables: Const and Var of the program. -/
namespace Go.Proofs.Ytakepdkokjecoaa
open Go.RowKit Go.Tk

/-- the words laid for a function -/
theorem laid_tab {n : Nat} {g : Nat → Nat} {F : Nat → Bool} (h : ∀ k, k < nw n → ∀ j, j < 64 → 64 * k + j < 2 ^ n → (g k).testBit j = F (64 * k + j)) : ((List.range (nw n)).map fun i => g i &&& fullN n) = tab n F := by
  unfold tab
  apply List.map_congr_left
  intro k hk
  exact word_laid (List.mem_range.1 hk) (h k (List.mem_range.1 hk))
/-- the answer: the table where there is no error -/
def ansN (n : Int) (e : Int) : Int := if e = 0 then n else 0
def ansL (ws : List Nat) (e : Int) : List Nat := if e = 0 then ws else []
/-- a call that answers a table and an error -/
def RetA (w : World) (n : Int) (ws : List Nat) (err : Int) : Ending → World → Prop := RetTE w (ansN n err) (ansL ws err) err
def varE (n v : Int) : Int := if cntE n ≠ 0 then cntE n else if v < 0 ∨ n ≤ v then 2 else 0
def varF (v : Nat) : Nat → Bool := fun i => i.testBit v
theorem cntE_ok {n : Int} (h : cntE n = 0) : 0 ≤ n ∧ n ≤ 16 := by
  unfold cntE at h
  split at h
  · cases h
  · split at h
    · cases h
    · omega

end Go.Proofs.Ytakepdkokjecoaa


/- Truth tables: Const and Not of the program. -/
namespace Go.Proofs.Ytakepdkokjecoaa
open Go.RowKit Go.Tk

theorem vb_word {ws : List Nat} {k x j : Nat} (h : ws[k]? = some x) (hj : j < 64) : vb ws (64 * k + j) = x.testBit j := by
  unfold vb
  rw [show (64 * k + j) / 64 = k by omega, show (64 * k + j) % 64 = j by omega, List.getD_eq_getElem?_getD, h]
  rfl
/-- all bits turned -/
def notN (x : Nat) : Nat := 18446744073709551615 - x
theorem notN_lt (x : Nat) : notN x < 18446744073709551616 := by unfold notN; omega
theorem notN_bit {x j : Nat} (hx : x < 18446744073709551616) (hj : j < 64) : (notN x).testBit j = !x.testBit j := by
  have h := Nat.testBit_two_pow_sub_succ (x := x) (n := 64) hx j
  unfold notN
  rw [show 18446744073709551615 - x = 2 ^ 64 - (x + 1) by omega, h]
  simp [hj]
theorem xor_not {x : Nat} (hx : x < 18446744073709551616) : bits .xor .u64 IntKind.u64.max (x : Int) = (notN x : Nat) := by
  have h := u64_xor_nat 18446744073709551615 x (by omega) hx
  rw [show IntKind.u64.max = ((18446744073709551615 : Nat) : Int) by decide, h]
  congr 1
  apply Nat.eq_of_testBit_eq
  intro j
  rw [Nat.testBit_xor, show (18446744073709551615 : Nat) = 2 ^ 64 - 1 by decide, Nat.testBit_two_pow_sub_one]
  by_cases hj : j < 64
  · rw [notN_bit hx hj]
    simp [hj]
  · have h1 : (notN x).testBit j = false := Nat.testBit_lt_two_pow (Nat.lt_of_lt_of_le (notN_lt x) (Nat.pow_le_pow_right (show 0 < 2 by omega) (show 64 ≤ j by omega)))
    have h2 : x.testBit j = false := Nat.testBit_lt_two_pow (Nat.lt_of_lt_of_le hx (Nat.pow_le_pow_right (show 0 < 2 by omega) (show 64 ≤ j by omega)))
    rw [h1, h2]
    simp [hj]
/-- the error of tables -/
def fmE (b : Bool) : Int := if b then 0 else 5
def notF (ws : List Nat) : Nat → Bool := fun i => !vb ws i
theorem frm_one (N : Int) (A : Option Addr) (C : Nat) (ws : List Nat) : fm [⟨N, A, C, ws⟩] = frm N ws := by simp [fm, Tb.frm]
end Go.Proofs.Ytakepdkokjecoaa


/- Truth tables: Binary of the program. -/
namespace Go.Proofs.Ytakepdkokjecoaa
open Go.RowKit Go.Tk

/-- the parts that the bits of op choose -/
def bwL (op : Nat) (pL : Nat → Nat) : Nat → Nat
  | 0 => 0
  | m + 1 => if op.testBit m then bwL op pL m ||| pL m else bwL op pL m
theorem bwL_lt {op : Nat} {pL : Nat → Nat} (h : ∀ m, pL m < 18446744073709551616) : ∀ m, bwL op pL m < 18446744073709551616
  | 0 => by simp [bwL]
  | m + 1 => by
    rw [bwL]
    split
    · exact Nat.or_lt_two_pow (n := 64) (bwL_lt h m) (h m)
    · exact bwL_lt h m
def partN (x y : Nat) : Nat → Nat
  | 0 => notN x &&& notN y
  | 1 => notN x &&& y
  | 2 => x &&& notN y
  | 3 => x &&& y
  | _ => 0
theorem partN_lt (x y : Nat) (hx : x < 18446744073709551616) : ∀ m, partN x y m < 18446744073709551616
  | 0 => Nat.lt_of_le_of_lt Nat.and_le_left (notN_lt x)
  | 1 => Nat.lt_of_le_of_lt Nat.and_le_left (notN_lt x)
  | 2 => Nat.lt_of_le_of_lt Nat.and_le_left hx
  | 3 => Nat.lt_of_le_of_lt Nat.and_le_left hx
  | m + 4 => by show (0 : Nat) < _; omega
def binN (op x y : Nat) : Nat := bwL op (partN x y) 4
theorem binN_bit {op x y j : Nat} (hx : x < 18446744073709551616) (hy : y < 18446744073709551616) (hj : j < 64) : (binN op x y).testBit j = op.testBit ((if x.testBit j then 2 else 0) + (if y.testBit j then 1 else 0)) := by
  have h1 := notN_bit hx hj
  have h2 := notN_bit hy hj
  unfold binN
  simp only [bwL]
  cases ho0 : op.testBit 0 <;> cases ho1 : op.testBit 1 <;> cases ho2 : op.testBit 2 <;> cases ho3 : op.testBit 3 <;>
    cases hxj : x.testBit j <;> cases hyj : y.testBit j <;> simp only [partN, if_true, if_false, Bool.false_eq_true, Nat.testBit_or, Nat.testBit_and, h1, h2, hxj, hyj, Nat.zero_testBit, ho0, ho1, ho2, ho3, Bool.not_true, Bool.not_false, Bool.and_true, Bool.and_false, Bool.or_true, Bool.or_false, Nat.zero_add, Nat.add_zero, Nat.reduceAdd]
theorem u8_shift (op m : Nat) (hop : op < 256) : bits .and .u8 ((op : Int) / 2 ^ m) 1 = ((op / 2 ^ m % 2 : Nat) : Int) := by
  have h1 : op / 2 ^ m ≤ op := Nat.div_le_self _ _
  have h2 : ((op : Int) / 2 ^ m) = ((op / 2 ^ m : Nat) : Int) := by rw [pow_int]; exact (Int.natCast_ediv op (2 ^ m)).symm
  have h3 := u8_and_nat (op / 2 ^ m) 1 (by omega) (by omega)
  rw [nat_mask1] at h3
  rw [h2, show (1 : Int) = ((1 : Nat) : Int) from rfl, h3]
end Go.Proofs.Ytakepdkokjecoaa


/- Truth tables: Binary of the program. -/
namespace Go.Proofs.Ytakepdkokjecoaa
open Go.RowKit Go.Tk

def binE (op : Nat) (fr : Bool) : Int := if 15 < op then 1 else fmE fr
def binF (op : Nat) (wsa wsb : List Nat) : Nat → Bool := fun i => op.testBit ((if vb wsa i then 2 else 0) + (if vb wsb i then 1 else 0))
theorem fm_two {Na Nb : Int} {Aa Ab : Option Addr} {Ca Cb : Nat} {wsa wsb : List Nat} (h : fm [⟨Na, Aa, Ca, wsa⟩, ⟨Nb, Ab, Cb, wsb⟩] = true) : ∃ n : Nat, Na = n ∧ Nb = n ∧ FormN n wsa ∧ FormN n wsb := by
  simp [fm, Tb.frm] at h
  obtain ⟨n, rfl, h1⟩ := frm_true h.1
  have h2 := h.2.1
  rw [h.2.2] at h2
  exact ⟨n, rfl, h.2.2, h1, frm_nat.1 h2⟩
theorem getD_of {ws : List Nat} {k x : Nat} (h : ws[k]? = some x) : ws.getD k 0 = x := by rw [List.getD_eq_getElem?_getD, h]; rfl
end Go.Proofs.Ytakepdkokjecoaa


/- Truth tables: half's closure. -/
namespace Go.Proofs.Ytakepdkokjecoaa
open Go.RowKit Go.Tk

theorem and_clr {i k : Nat} (hi : i < 1024) (hp : 2 ^ k < 18446744073709551616) (j : Nat) : (i &&& (18446744073709551615 - 2 ^ k)).testBit j = if j = k then false else i.testBit j := by
  by_cases hj : j < 64
  · rw [Nat.testBit_and, not64_bit hp hj, Nat.testBit_two_pow]
    by_cases h : j = k
    · subst h; simp
    · rw [if_neg h]
      simp [show ¬ k = j by omega]
  · have h1 : i.testBit j = false := Nat.testBit_lt_two_pow (Nat.lt_of_lt_of_le hi (show 2 ^ 10 ≤ 2 ^ j from Nat.pow_le_pow_right (by omega) (by omega)))
    rw [Nat.testBit_and, h1]
    split <;> rfl
theorem or_set (i k : Nat) : wth i k false ||| 2 ^ k = wth i k true := wth_of fun j => by
  rw [Nat.testBit_or, wth_bit, Nat.testBit_two_pow]
  by_cases h : j = k
  · subst h; simp
  · rw [if_neg h, if_neg h]
    simp [show ¬ k = j by omega]
set_option maxHeartbeats 4000000 in
theorem half1_any (n i v Bv Bb Ba : Nat) (b : Bool) (A : Option Addr) (C : Nat) (ws : List Nat) (w : World) (hf : FormN n ws) (hi : i < nw n) (hv : v < n) (h : WL w A ws.length ws) (hb : Small ws)
    (hcv : w.cell? ⟨Bv, 0, none⟩ = some (.int .i64 v)) (hcb : w.cell? ⟨Bb, 0, none⟩ = some (.bool b)) (hca : w.cell? ⟨Ba, 1, none⟩ = some (.slice A ws.length C)) :
    Calls Try.prog 47 #[.int .i64 i, .pointer (some ⟨Bv, 0, none⟩), .pointer (some ⟨Bb, 0, none⟩), .pointer (some ⟨Ba, 0, none⟩)] w fun e w' => e = .returned (.int .u64 (halfN v b ws i : Nat)) ∧ Same w w' := by
  have hlBv : Bv < w.heap.size := World.block_lt_of_cell? w _ hcv
  have hlBb : Bb < w.heap.size := World.block_lt_of_cell? w _ hcb
  have hlBa : Ba < w.heap.size := World.block_lt_of_cell? w _ hca
  have hn := hf.n16
  have hnl := nw_le hn
  by_cases h6 : 6 ≤ v
  · have hil : wth i (v - 6) b < ws.length := by
      have h0 : nw n = 2 ^ (n - 6) := by
        unfold nw
        rw [if_neg (by omega)]
      rw [hf.len, h0]
      rw [h0] at hi
      exact wth_lt hi (by omega)
    have hpk2 : 2 ^ (v - 6) < 18446744073709551616 := Nat.lt_of_le_of_lt (Nat.pow_le_pow_right (show 0 < 2 by omega) (show v - 6 ≤ 10 by omega)) (by decide)
    cases b with
    | false =>
      obtain ⟨k, rfl⟩ : ∃ k, v = k + 6 := ⟨v - 6, by omega⟩
      rw [show k + 6 - 6 = k by omega] at hil hpk2
      obtain ⟨x, hx⟩ : ∃ x, ws[wth i k false]? = some x := ⟨_, List.getElem?_eq_getElem hil⟩
      have hxe : halfN (k + 6) false ws i = x := by
        unfold halfN
        rw [if_pos (by omega), show k + 6 - 6 = k by omega, getD_of hx]
      obtain ⟨b0, off, rfl, hbl, hc⟩ := h.at1 hx
      have hpk : 2 ^ k ≤ 2 ^ 9 := Nat.pow_le_pow_right (by omega) (by omega)
      have hand := i64_andNot_nat i (2 ^ k) (by omega) (by omega)
      have hor := i64_or_nat (i &&& (18446744073709551615 - 2 ^ k)) (2 ^ k) (Nat.lt_of_le_of_lt Nat.and_le_left (by omega)) (by omega)
      have hcl : i &&& (18446744073709551615 - 2 ^ k) = wth i k false := wth_of fun j => and_clr (by omega) hpk2 j
      have hst : wth i k false ||| 2 ^ k = wth i k true := or_set i k
      rw [hcl] at hand hor
      rw [hst] at hor
      have hwl : wth i k false < ws.length := hil
      have hsw : wrap64 ((2 : Int) ^ k) = ((2 ^ k : Nat) : Int) := by
        rw [pow_int]
        generalize 2 ^ k = p at hpk ⊢
        exact IntWalk.wrap64_in _ (by omega)
      have hsw2 : IntKind.i64.wrap ((2 : Int) ^ k) = ((2 ^ k : Nat) : Int) := by
        rw [pow_int]
        generalize 2 ^ k = p at hpk ⊢
        exact IntWalk.i64_in _ (by omega)
      rw [hxe]
      clear hxe hcl hst hpk2 hx
      generalize 2 ^ k = p at *
      generalize wth i k false = ix at *
      have hix0 : (0 : Int) ≤ ix := by omega
      have hix1 : (ix : Int) < ws.length := by omega
      have hcv' : w.cell? ⟨Bv, 0, none⟩ = some (.int .i64 ((k : Int) + 6)) := hcv
      have hk6 : (k : Int) + 6 ≥ 6 := by omega
      have hk7 : (k : Int) + 6 - 6 = k := by omega
      have hk8 : IntKind.i64.wrap ((k : Int) + 6 - 6) = k := by rw [IntWalk.i64_in _ (by omega)]; omega
      have hk9 : (0 : Int) ≤ k := by omega
      clear hcv
      go_enter Try.func47, Try.ntmps47
      go_wp2
      go_ret
      exact ⟨rfl, Frm.refl _ _⟩
    | true =>
      obtain ⟨k, rfl⟩ : ∃ k, v = k + 6 := ⟨v - 6, by omega⟩
      rw [show k + 6 - 6 = k by omega] at hil hpk2
      obtain ⟨x, hx⟩ : ∃ x, ws[wth i k true]? = some x := ⟨_, List.getElem?_eq_getElem hil⟩
      have hxe : halfN (k + 6) true ws i = x := by
        unfold halfN
        rw [if_pos (by omega), show k + 6 - 6 = k by omega, getD_of hx]
      obtain ⟨b0, off, rfl, hbl, hc⟩ := h.at1 hx
      have hpk : 2 ^ k ≤ 2 ^ 9 := Nat.pow_le_pow_right (by omega) (by omega)
      have hand := i64_andNot_nat i (2 ^ k) (by omega) (by omega)
      have hor := i64_or_nat (i &&& (18446744073709551615 - 2 ^ k)) (2 ^ k) (Nat.lt_of_le_of_lt Nat.and_le_left (by omega)) (by omega)
      have hcl : i &&& (18446744073709551615 - 2 ^ k) = wth i k false := wth_of fun j => and_clr (by omega) hpk2 j
      have hst : wth i k false ||| 2 ^ k = wth i k true := or_set i k
      rw [hcl] at hand hor
      rw [hst] at hor
      have hwl : wth i k true < ws.length := hil
      have hsw : wrap64 ((2 : Int) ^ k) = ((2 ^ k : Nat) : Int) := by
        rw [pow_int]
        generalize 2 ^ k = p at hpk ⊢
        exact IntWalk.wrap64_in _ (by omega)
      have hsw2 : IntKind.i64.wrap ((2 : Int) ^ k) = ((2 ^ k : Nat) : Int) := by
        rw [pow_int]
        generalize 2 ^ k = p at hpk ⊢
        exact IntWalk.i64_in _ (by omega)
      rw [hxe]
      clear hxe hcl hst hpk2 hx
      generalize 2 ^ k = p at *
      generalize wth i k true = ix at *
      have hix0 : (0 : Int) ≤ ix := by omega
      have hix1 : (ix : Int) < ws.length := by omega
      have hcv' : w.cell? ⟨Bv, 0, none⟩ = some (.int .i64 ((k : Int) + 6)) := hcv
      have hk6 : (k : Int) + 6 ≥ 6 := by omega
      have hk7 : (k : Int) + 6 - 6 = k := by omega
      have hk8 : IntKind.i64.wrap ((k : Int) + 6 - 6) = k := by rw [IntWalk.i64_in _ (by omega)]; omega
      have hk9 : (0 : Int) ≤ k := by omega
      clear hcv
      go_enter Try.func47, Try.ntmps47
      go_wp2
      go_ret
      exact ⟨rfl, Frm.refl _ _⟩
  · obtain ⟨x, hx⟩ : ∃ x, ws[i]? = some x := ⟨_, List.getElem?_eq_getElem (by rw [hf.len]; exact hi)⟩
    have hxe : halfN v b ws i = halfW v b x := by
      unfold halfN
      rw [if_neg h6, getD_of hx]
    obtain ⟨b0, off, rfl, hbl, hc⟩ := h.at1 hx
    have hxb := hb.at1 hx
    have hi0 : (0 : Int) ≤ i := by omega
    have hi1 : (i : Int) < ws.length := by rw [hf.len]; omega
    have hv6 : v < 6 := by omega
    have hcol : colN v 0 = bsum (fun j => j.testBit v) 64 := by unfold colN; rw [if_pos hv6]
    have hcc := fun w => column_any v 0 w (by omega) (by omega)
    have hcl : bsum (fun j => j.testBit v) 64 < 18446744073709551616 := bsum_lt _ 64
    have hs32 : 2 ^ v ≤ 2 ^ 5 := Nat.pow_le_pow_right (by omega) (by omega)
    rw [hxe]
    unfold halfW
    rw [hcol] at hcc
    generalize bsum (fun j => j.testBit v) 64 = c at hcc hcl ⊢
    have hsw : wrap64 ((2 : Int) ^ v) = ((2 ^ v : Nat) : Int) := by
      rw [pow_int]
      generalize 2 ^ v = p at hs32 ⊢
      exact IntWalk.wrap64_in _ (by omega)
    have hsw2 : IntKind.i64.wrap ((2 : Int) ^ v) = ((2 ^ v : Nat) : Int) := by
      rw [pow_int]
      generalize 2 ^ v = p at hs32 ⊢
      exact IntWalk.i64_in _ (by omega)
    have hs64 : 2 ^ v < 64 := Nat.lt_of_le_of_lt hs32 (by decide)
    have hmin : min (2 ^ v) 64 = 2 ^ v := Nat.min_eq_left (Nat.le_of_lt hs64)
    clear hs32
    generalize 2 ^ v = s at hsw hsw2 hs64 hmin ⊢
    have hnv : ¬ (v : Int) ≥ 6 := by omega
    have HCC := Lib.hid hcc
    clear hxe hx hcol hcc h6 hf hi
    cases b with
    | true =>
      rw [if_pos rfl]
      have ha := u64_and_nat x c hxb hcl
      have hy : x &&& c < 18446744073709551616 := Nat.lt_of_le_of_lt Nat.and_le_left hxb
      generalize x &&& c = y at ha hy ⊢
      have hzl : y / 2 ^ s < 18446744073709551616 := Nat.lt_of_le_of_lt (Nat.div_le_self _ _) hy
      have hd : (y : Int) / 2 ^ s = ((y / 2 ^ s : Nat) : Int) := by rw [pow_int]; exact (Int.natCast_ediv y (2 ^ s)).symm
      generalize y / 2 ^ s = z at hd hzl ⊢
      have ho := u64_or_nat y z hy hzl
      go_enter Try.func47, Try.ntmps47
      go_upto_region 6 with fail
      refine wp_quiet (by kernel_rfl) (by kernel_rfl) ?_
      repeat (any_goals (first | go_big_quiet_step ((go_at_call 48; exact quiet_call ((HCC.out _).mono fun e w' h => ⟨h.1, h.2 ▸ Frm.refl _ _⟩))) | quiet_step ((go_at_call 48; exact quiet_call ((HCC.out _).mono fun e w' h => ⟨h.1, h.2 ▸ Frm.refl _ _⟩)))))
      refine wpQuiet_nil ?_
      rintro wz ⟨q, hq⟩
      have hsz : Same w wz := by rw [hq]; exact more_same _ q
      have hc2 := (hsz.cell (World.block_lt_of_cell? w _ hc) id).trans hc
      have hcb2 := (hsz.cell (World.block_lt_of_cell? w _ hcb) id).trans hcb
      have hca2 := (hsz.cell (World.block_lt_of_cell? w _ hca) id).trans hca
      have HSZ := Lib.hid hsz
      clear hq hsz hc hcb hca hcv
      go_wp2
      go_ret
      exact ⟨rfl, HSZ.out⟩
    | false =>
      rw [if_neg (by decide)]
      have ha := u64_andNot_nat x c hxb hcl
      have hy : x &&& (18446744073709551615 - c) < 18446744073709551616 := Nat.lt_of_le_of_lt Nat.and_le_left hxb
      generalize x &&& (18446744073709551615 - c) = y at ha hy ⊢
      have hzl : y * 2 ^ s % 18446744073709551616 < 18446744073709551616 := Nat.mod_lt _ (by omega)
      have hd : IntKind.u64.wrap ((y : Int) * 2 ^ s) = ((y * 2 ^ s % 18446744073709551616 : Nat) : Int) := by
        rw [pow_int, IntKind.wrap_u64, ← Int.natCast_mul]
        exact (Int.natCast_emod _ _).symm
      generalize y * 2 ^ s % 18446744073709551616 = z at hd hzl ⊢
      have ho := u64_or_nat y z hy hzl
      go_enter Try.func47, Try.ntmps47
      go_upto_region 6 with fail
      refine wp_quiet (by kernel_rfl) (by kernel_rfl) ?_
      repeat (any_goals (first | go_big_quiet_step ((go_at_call 48; exact quiet_call ((HCC.out _).mono fun e w' h => ⟨h.1, h.2 ▸ Frm.refl _ _⟩))) | quiet_step ((go_at_call 48; exact quiet_call ((HCC.out _).mono fun e w' h => ⟨h.1, h.2 ▸ Frm.refl _ _⟩)))))
      refine wpQuiet_nil ?_
      rintro wz ⟨q, hq⟩
      have hsz : Same w wz := by rw [hq]; exact more_same _ q
      have hc2 := (hsz.cell (World.block_lt_of_cell? w _ hc) id).trans hc
      have hcb2 := (hsz.cell (World.block_lt_of_cell? w _ hcb) id).trans hcb
      have hca2 := (hsz.cell (World.block_lt_of_cell? w _ hca) id).trans hca
      have HSZ := Lib.hid hsz
      clear hq hsz hc hcb hca hcv
      go_wp2
      go_ret
      exact ⟨rfl, HSZ.out⟩
end Go.Proofs.Ytakepdkokjecoaa


/- Truth tables: half of the program; the error of a table and a variable. -/
namespace Go.Proofs.Ytakepdkokjecoaa
open Go.RowKit Go.Tk

/-- the cofactor's values -/
def hfF (v : Nat) (b : Bool) (ws : List Nat) : Nat → Bool := fun i => vb ws (wth i v b)
theorem Small.getD {ws : List Nat} (h : Small ws) (i : Nat) : ws.getD i 0 < 18446744073709551616 := by
  rw [List.getD_eq_getElem?_getD]
  cases hx : ws[i]? with
  | none => simp
  | some x => exact h.at1 hx
theorem halfW_lt {v x : Nat} {b : Bool} (hx : x < 18446744073709551616) : halfW v b x < 18446744073709551616 := by
  unfold halfW
  have h1 : x &&& bsum (fun j => j.testBit v) 64 < 2 ^ 64 := Nat.lt_of_le_of_lt Nat.and_le_left hx
  have h2 : x &&& (18446744073709551615 - bsum (fun j => j.testBit v) 64) < 2 ^ 64 := Nat.lt_of_le_of_lt Nat.and_le_left hx
  split
  · exact Nat.or_lt_two_pow (n := 64) h1 (Nat.lt_of_le_of_lt (Nat.div_le_self _ _) h1)
  · exact Nat.or_lt_two_pow (n := 64) h2 (Nat.mod_lt _ (by decide))
theorem halfN_lt {v i : Nat} {b : Bool} {ws : List Nat} (h : Small ws) : halfN v b ws i < 18446744073709551616 := by
  unfold halfN
  split
  · exact h.getD _
  · exact halfW_lt (h.getD _)
theorem halfN_bit {n v k j : Nat} {b : Bool} {ws : List Nat} (hf : FormN n ws) (hk : k < nw n) (hv : v < n) (hj : j < 64) : (halfN v b ws k).testBit j = hfF v b ws (64 * k + j) := by
  unfold halfN hfF
  by_cases h6 : 6 ≤ v
  · rw [if_pos h6, wth_high b hj h6]
    have h0 : nw n = 2 ^ (n - 6) := by unfold nw; rw [if_neg (by omega)]
    have hil : wth k (v - 6) b < ws.length := by
      rw [hf.len, h0]
      rw [h0] at hk
      exact wth_lt hk (by omega)
    rw [getD_of (List.getElem?_eq_getElem hil), vb_word (List.getElem?_eq_getElem hil) hj]
  · have hkl : k < ws.length := by rw [hf.len]; exact hk
    rw [if_neg h6, wth_low b hj (by omega), getD_of (List.getElem?_eq_getElem hkl), halfW_bit b (by omega) hj, vb_word (List.getElem?_eq_getElem hkl) (wth_lt (n := 6) hj (by omega))]
set_option maxHeartbeats 4000000 in
theorem half_any (n v : Nat) (b : Bool) (Aa : Option Addr) (Ca : Nat) (wsa : List Nat) (w : World) (h : TbOk w ⟨n, Aa, Ca, wsa⟩) (hf : FormN n wsa) (hv : v < n) :
    Calls Try.prog 43 #[.agg #[.int .i64 n, .slice Aa wsa.length Ca], .int .i64 v, .bool b] w (RetT w n (tab n (hfF v b wsa))) := by
  have hmf : ∀ (fn : Fn) (first cap : Array Value) (w : World), (Instr.makeFunc fn first cap).run Try.prog w = .ok (.func fn first cap) w := fun _ _ _ _ => rfl
  have H := Lib.hid h
  have hn := hf.n16
  have HTB := Lib.hid (laid_tab (n := n) (g := halfN v b wsa) (F := hfF v b wsa) fun k hk j hj _ => halfN_bit hf hk hv hj)
  have HF := Lib.hid hf
  have HV := Lib.hid hv
  have HSM := Lib.hid h.small
  clear h hf hv
  have hen : ∀ (args : Array Value) (w : World), (callFunc 47 args).run Try.prog w = .ok (.enter 47 args) w := enters_of Try.func47 (by kernel_rfl) rfl
  have HEN := Lib.hid hen
  clear hen
  go_enter Try.func43, Try.ntmps43
  go_upto_region 1 with fail
  refine wp_world fun w1 hw1 => ?_
  have hs1 : Same w w1 := by rw [hw1]; exact ((((Frm.refl _ _).alloc _).alloc _).alloc _).alloc _
  have hBXa : Blk w1 (w.heap.size) 37 #[.int .i64 n, .slice Aa wsa.length Ca] := by
    rw [hw1]
    have := ((((Blk.new w 37 #[.int .i64 n, .slice Aa wsa.length Ca]).alloc (.cells #[.int .i64 v] 3)).alloc (.cells #[.bool b] 4)).alloc (.cells #[.int .i64 0, .slice none 0 0] 37))
    simpa using this
  have hBV : Blk w1 (w.heap.size + 1) 3 #[.int .i64 v] := by
    rw [hw1]
    have := (((Blk.new (w.alloc (.cells #[.int .i64 n, .slice Aa wsa.length Ca] 37)) 3 #[.int .i64 v]).alloc (.cells #[.bool b] 4)).alloc (.cells #[.int .i64 0, .slice none 0 0] 37))
    simpa using this
  have hBB : Blk w1 (w.heap.size + 1 + 1) 4 #[.bool b] := by
    rw [hw1]
    have := ((Blk.new ((w.alloc (.cells #[.int .i64 n, .slice Aa wsa.length Ca] 37)).alloc (.cells #[.int .i64 v] 3)) 4 #[.bool b]).alloc (.cells #[.int .i64 0, .slice none 0 0] 37))
    simpa using this
  have hBR : Blk w1 (w.heap.size + 1 + 1 + 1) 37 #[.int .i64 0, .slice none 0 0] := by
    rw [hw1]
    have := (Blk.new (((w.alloc (.cells #[.int .i64 n, .slice Aa wsa.length Ca] 37)).alloc (.cells #[.int .i64 v] 3)).alloc (.cells #[.bool b] 4)) 37 #[.int .i64 0, .slice none 0 0])
    simpa using this
  clear hw1
  obtain ⟨R, hR⟩ : ∃ b, w.heap.size + 1 + 1 + 1 = b := ⟨_, rfl⟩
  rw [hR] at hBR ⊢
  obtain ⟨B, hB⟩ : ∃ b, w.heap.size + 1 + 1 = b := ⟨_, rfl⟩
  rw [hB] at hBB ⊢
  obtain ⟨V, hV⟩ : ∃ b, w.heap.size + 1 = b := ⟨_, rfl⟩
  rw [hV] at hBV ⊢
  have leV : w.heap.size ≤ V := by omega
  have leB : w.heap.size ≤ B := by omega
  have leR : w.heap.size ≤ R := by omega
  have neXaV : w.heap.size ≠ V := by omega
  have neXaB : w.heap.size ≠ B := by omega
  have neXaR : w.heap.size ≠ R := by omega
  have neVB : V ≠ B := by omega
  have neVR : V ≠ R := by omega
  have neBR : B ≠ R := by omega
  clear hV hB hR
  have cXa0 : w1.cell? ⟨w.heap.size, 0, none⟩ = some (.int .i64 n) := hBXa.cell 0
  have cXa1 : w1.cell? ⟨w.heap.size, 1, none⟩ = some (.slice Aa wsa.length Ca) := hBXa.cell 1
  have lXa := hBXa.lt
  have fXa0 := hBXa.free 0
  have fXa1 := hBXa.free 1
  have HBXa := Lib.hid hBXa
  have cV0 : w1.cell? ⟨V, 0, none⟩ = some (.int .i64 v) := hBV.cell 0
  have lV := hBV.lt
  have fV0 := hBV.free 0
  have HBV := Lib.hid hBV
  have cB0 : w1.cell? ⟨B, 0, none⟩ = some (.bool b) := hBB.cell 0
  have lB := hBB.lt
  have fB0 := hBB.free 0
  have HBB := Lib.hid hBB
  have cR0 : w1.cell? ⟨R, 0, none⟩ = some (.int .i64 0) := hBR.cell 0
  have cR1 : w1.cell? ⟨R, 1, none⟩ = some (.slice none 0 0) := hBR.cell 1
  have lR := hBR.lt
  have fR0 := hBR.free 0
  have fR1 := hBR.free 1
  have HBR := Lib.hid hBR
  have HS1 := Lib.hid hs1
  clear hs1 hBXa hBV hBB hBR
  have htl : Tells w1 n 47 #[.pointer (some ⟨V, 0, none⟩), .pointer (some ⟨B, 0, none⟩), .pointer (some ⟨w.heap.size, 0, none⟩)] (halfN v b wsa) := fun i hi => ⟨halfN_lt HSM.out, fun w' hs' => by
    refine (half1_any n i v V B w.heap.size b Aa Ca wsa w' HF.out hi HV.out (Sl.same (Sl.same H.out.wl HS1.out) hs') HSM.out ((hs'.cell (p := ⟨V, 0, none⟩) lV id).trans cV0) ((hs'.cell (p := ⟨B, 0, none⟩) lB id).trans cB0) ((hs'.cell (p := ⟨w.heap.size, 1, none⟩) lXa id).trans cXa1)).mono ?_
    exact fun e w'' h => h⟩
  have HTL := Lib.hid htl
  clear htl
  go_wp2_with (fail)
  refine (laid_any n 47 #[.pointer (some ⟨V, 0, none⟩), .pointer (some ⟨B, 0, none⟩), .pointer (some ⟨w.heap.size, 0, none⟩)] (halfN v b wsa) w1 hn HEN.out HTL.out).mono ?_
  rintro e w3 ⟨Aq, Cq, rfl, hNT⟩
  rw [HTB.out] at hNT ⊢
  have hoq := hNT.1
  have hfq := hNT.2.1
  have hsq := hNT.2.2
  have hRq : ∀ a, Aq = some a → a.block ≠ R := fun a ha h => by
    have := hfq a.block ⟨a, ha, rfl⟩
    omega
  have HBRq := Lib.hid (HBR.out.frm hsq id)
  have HSq := Lib.hid (HS1.out.trans hsq (fun _ _ h => h))
  have hfq' : Fresh w.heap.size Aq := fun b hb => by have := hfq b hb; have := HS1.out.size; omega
  have HOQ := Lib.hid hoq
  have HFQ := Lib.hid hfq'
  have hcR0 : w3.cell? ⟨R, 0, none⟩ = some (.int .i64 0) := HBRq.out.cell 0
  have hcR1 : w3.cell? ⟨R, 1, none⟩ = some (.slice none 0 0) := HBRq.out.cell 1
  have hfR0 := HBRq.out.free 0
  have hfR1 := HBRq.out.free 1
  have hlR := HBRq.out.lt
  clear hNT hoq hfq hsq hfq'
  go_wp2
  refine wp_post fun we hwe => ?_
  have hBE : Blk we R 37 #[.int .i64 n, .slice Aq (tab n (hfF v b wsa)).length Cq] := by
    rw [hwe]
    have := (HBRq.out.set 0 (.int .i64 n)).set 1 (.slice Aq (tab n (hfF v b wsa)).length Cq)
    simpa using this
  have hSE : Same w we := by rw [hwe]; exact (HSq.out.setNew 0 _ leR).setNew 1 _ leR
  have hOE : OwnW we Aq (tab n (hfF v b wsa)).length Cq (tab n (hfF v b wsa)) := by
    rw [hwe]
    exact (Own.far (p := ⟨R, 0, none⟩) HOQ.out hRq _).far (p := ⟨R, 1, none⟩) hRq _
  have hr0 : we.cell? ⟨R, 0, none⟩ = some (.int .i64 n) := hBE.cell 0
  have hr1 : we.cell? ⟨R, 1, none⟩ = some (.slice Aq (tab n (hfF v b wsa)).length Cq) := hBE.cell 1
  clear hwe hBE
  refine bodyPost_ret (v := .agg #[.int .i64 n, .slice Aq (tab n (hfF v b wsa)).length Cq]) (by simp [results, Try.results43, go_sem, hr0, hr1]) rfl ?_
  exact ⟨Aq, Cq, rfl, hOE, HFQ.out, hSE⟩

/-- the error of a table and a variable -/
def ofE (N v : Int) (ws : List Nat) : Int := if frm N ws then (if v < 0 ∨ N ≤ v then 2 else 0) else 5
set_option maxHeartbeats 2000000 in
theorem of_any (Na : Int) (Aa : Option Addr) (Ca : Nat) (wsa : List Nat) (v : Int) (w : World) (h : TbOk w ⟨Na, Aa, Ca, wsa⟩) : Calls Try.prog 46 #[.agg #[.int .i64 Na, .slice Aa wsa.length Ca], .int .i64 v] w fun e w' => e = .returned (.int .i64 (ofE Na v wsa)) ∧ Same w w' := by
  have H := Lib.hid h
  clear h
  unfold ofE
  cases hfr : frm Na wsa with
  | false =>
    have HFM := Lib.hid ((frm_one Na Aa Ca wsa).trans hfr)
    clear hfr
    rw [if_neg (by decide)]
    go_enter Try.func46, Try.ntmps46
    go_upto_region 1 with fail
    refine wp_world fun w1 hw1 => ?_
    have hs1 : Same w w1 := by rw [hw1]; exact (Frm.refl _ _).alloc _
    have hBXa : Blk w1 (w.heap.size) 37 #[.int .i64 Na, .slice Aa wsa.length Ca] := by
      rw [hw1]
      have := (Blk.new w 37 #[.int .i64 Na, .slice Aa wsa.length Ca])
      simpa using this
    clear hw1
    have cXa0 : w1.cell? ⟨w.heap.size, 0, none⟩ = some (.int .i64 Na) := hBXa.cell 0
    have cXa1 : w1.cell? ⟨w.heap.size, 1, none⟩ = some (.slice Aa wsa.length Ca) := hBXa.cell 1
    have lXa := hBXa.lt
    have fXa0 := hBXa.free 0
    have fXa1 := hBXa.free 1
    have HBXa := Lib.hid hBXa
    have HS1 := Lib.hid hs1
    clear hs1 hBXa
    have HOKa := Lib.hid (H.out.same HS1.out)
    go_wp2_with (fail)
    refine call_world fun w2 hw2 => ?_
    have hs2 : Same w1 w2 := by rw [hw2]; exact (Frm.refl _ _).alloc _
    have hBL : Blk w2 w1.heap.size 37 #[.int .i64 Na, .slice Aa wsa.length Ca] := by rw [hw2]; exact Blk.new _ _ _
    have htbs : Tbs w2 w1.heap.size [⟨Na, Aa, Ca, wsa⟩] := by
      intro i t hi
      match i, hi with
      | 0, hi =>
        simp only [List.getElem?_cons_zero, Option.some.injEq] at hi
        subst hi
        exact ⟨hBL.lt, hBL.cell 0, hBL.cell 1⟩
      | i + 1, hi => simp at hi
    have hfc := form_any w1.heap.size 1 1 [⟨Na, Aa, Ca, wsa⟩] w2 rfl (by decide) htbs (fun t ht => by
      simp only [List.mem_cons, List.not_mem_nil, or_false] at ht
      rcases ht with rfl
      · exact (HOKa.out).same hs2)
    rw [HFM.out] at hfc
    refine hfc.mono ?_
    clear hfc htbs hBL hw2
    rintro e w3 ⟨rfl, hs3⟩
    have hs13 : Same w1 w3 := hs2.trans hs3 (fun _ _ h => h)
    clear hs2 hs3
    replace HBXa := Lib.hid (HBXa.out.frm hs13 id)
    replace cXa0 : w3.cell? ⟨w.heap.size, 0, none⟩ = some (.int .i64 Na) := HBXa.out.cell 0
    replace cXa1 : w3.cell? ⟨w.heap.size, 1, none⟩ = some (.slice Aa wsa.length Ca) := HBXa.out.cell 1
    replace lXa := HBXa.out.lt
    replace fXa0 := HBXa.out.free 0
    replace fXa1 := HBXa.out.free 1
    replace HS1 := Lib.hid (HS1.out.trans hs13 (fun _ _ h => h))
    clear hs13
    go_wp2
    go_ret
    exact ⟨rfl, HS1.out⟩
  | true =>
    have HFM := Lib.hid ((frm_one Na Aa Ca wsa).trans hfr)
    clear hfr
    rw [if_pos rfl]
    by_cases h1 : v < 0 ∨ Na ≤ v
    · rw [if_pos h1]
      by_cases h2 : v < 0
      · clear h1
        go_enter Try.func46, Try.ntmps46
        go_upto_region 1 with fail
        refine wp_world fun w1 hw1 => ?_
        have hs1 : Same w w1 := by rw [hw1]; exact (Frm.refl _ _).alloc _
        have hBXa : Blk w1 (w.heap.size) 37 #[.int .i64 Na, .slice Aa wsa.length Ca] := by
          rw [hw1]
          have := (Blk.new w 37 #[.int .i64 Na, .slice Aa wsa.length Ca])
          simpa using this
        clear hw1
        have cXa0 : w1.cell? ⟨w.heap.size, 0, none⟩ = some (.int .i64 Na) := hBXa.cell 0
        have cXa1 : w1.cell? ⟨w.heap.size, 1, none⟩ = some (.slice Aa wsa.length Ca) := hBXa.cell 1
        have lXa := hBXa.lt
        have fXa0 := hBXa.free 0
        have fXa1 := hBXa.free 1
        have HBXa := Lib.hid hBXa
        have HS1 := Lib.hid hs1
        clear hs1 hBXa
        have HOKa := Lib.hid (H.out.same HS1.out)
        go_wp2_with (fail)
        refine call_world fun w2 hw2 => ?_
        have hs2 : Same w1 w2 := by rw [hw2]; exact (Frm.refl _ _).alloc _
        have hBL : Blk w2 w1.heap.size 37 #[.int .i64 Na, .slice Aa wsa.length Ca] := by rw [hw2]; exact Blk.new _ _ _
        have htbs : Tbs w2 w1.heap.size [⟨Na, Aa, Ca, wsa⟩] := by
          intro i t hi
          match i, hi with
          | 0, hi =>
            simp only [List.getElem?_cons_zero, Option.some.injEq] at hi
            subst hi
            exact ⟨hBL.lt, hBL.cell 0, hBL.cell 1⟩
          | i + 1, hi => simp at hi
        have hfc := form_any w1.heap.size 1 1 [⟨Na, Aa, Ca, wsa⟩] w2 rfl (by decide) htbs (fun t ht => by
          simp only [List.mem_cons, List.not_mem_nil, or_false] at ht
          rcases ht with rfl
          · exact (HOKa.out).same hs2)
        rw [HFM.out] at hfc
        refine hfc.mono ?_
        clear hfc htbs hBL hw2
        rintro e w3 ⟨rfl, hs3⟩
        have hs13 : Same w1 w3 := hs2.trans hs3 (fun _ _ h => h)
        clear hs2 hs3
        replace HBXa := Lib.hid (HBXa.out.frm hs13 id)
        replace cXa0 : w3.cell? ⟨w.heap.size, 0, none⟩ = some (.int .i64 Na) := HBXa.out.cell 0
        replace cXa1 : w3.cell? ⟨w.heap.size, 1, none⟩ = some (.slice Aa wsa.length Ca) := HBXa.out.cell 1
        replace lXa := HBXa.out.lt
        replace fXa0 := HBXa.out.free 0
        replace fXa1 := HBXa.out.free 1
        replace HS1 := Lib.hid (HS1.out.trans hs13 (fun _ _ h => h))
        clear hs13
        go_wp2
        go_ret
        exact ⟨rfl, HS1.out⟩
      · have h3 : v ≥ Na := by omega
        clear h1
        go_enter Try.func46, Try.ntmps46
        go_upto_region 1 with fail
        refine wp_world fun w1 hw1 => ?_
        have hs1 : Same w w1 := by rw [hw1]; exact (Frm.refl _ _).alloc _
        have hBXa : Blk w1 (w.heap.size) 37 #[.int .i64 Na, .slice Aa wsa.length Ca] := by
          rw [hw1]
          have := (Blk.new w 37 #[.int .i64 Na, .slice Aa wsa.length Ca])
          simpa using this
        clear hw1
        have cXa0 : w1.cell? ⟨w.heap.size, 0, none⟩ = some (.int .i64 Na) := hBXa.cell 0
        have cXa1 : w1.cell? ⟨w.heap.size, 1, none⟩ = some (.slice Aa wsa.length Ca) := hBXa.cell 1
        have lXa := hBXa.lt
        have fXa0 := hBXa.free 0
        have fXa1 := hBXa.free 1
        have HBXa := Lib.hid hBXa
        have HS1 := Lib.hid hs1
        clear hs1 hBXa
        have HOKa := Lib.hid (H.out.same HS1.out)
        go_wp2_with (fail)
        refine call_world fun w2 hw2 => ?_
        have hs2 : Same w1 w2 := by rw [hw2]; exact (Frm.refl _ _).alloc _
        have hBL : Blk w2 w1.heap.size 37 #[.int .i64 Na, .slice Aa wsa.length Ca] := by rw [hw2]; exact Blk.new _ _ _
        have htbs : Tbs w2 w1.heap.size [⟨Na, Aa, Ca, wsa⟩] := by
          intro i t hi
          match i, hi with
          | 0, hi =>
            simp only [List.getElem?_cons_zero, Option.some.injEq] at hi
            subst hi
            exact ⟨hBL.lt, hBL.cell 0, hBL.cell 1⟩
          | i + 1, hi => simp at hi
        have hfc := form_any w1.heap.size 1 1 [⟨Na, Aa, Ca, wsa⟩] w2 rfl (by decide) htbs (fun t ht => by
          simp only [List.mem_cons, List.not_mem_nil, or_false] at ht
          rcases ht with rfl
          · exact (HOKa.out).same hs2)
        rw [HFM.out] at hfc
        refine hfc.mono ?_
        clear hfc htbs hBL hw2
        rintro e w3 ⟨rfl, hs3⟩
        have hs13 : Same w1 w3 := hs2.trans hs3 (fun _ _ h => h)
        clear hs2 hs3
        replace HBXa := Lib.hid (HBXa.out.frm hs13 id)
        replace cXa0 : w3.cell? ⟨w.heap.size, 0, none⟩ = some (.int .i64 Na) := HBXa.out.cell 0
        replace cXa1 : w3.cell? ⟨w.heap.size, 1, none⟩ = some (.slice Aa wsa.length Ca) := HBXa.out.cell 1
        replace lXa := HBXa.out.lt
        replace fXa0 := HBXa.out.free 0
        replace fXa1 := HBXa.out.free 1
        replace HS1 := Lib.hid (HS1.out.trans hs13 (fun _ _ h => h))
        clear hs13
        go_wp2
        go_ret
        exact ⟨rfl, HS1.out⟩
    · rw [if_neg h1]
      have h2 : ¬ v < 0 := by omega
      have h3 : ¬ v ≥ Na := by omega
      clear h1
      go_enter Try.func46, Try.ntmps46
      go_upto_region 1 with fail
      refine wp_world fun w1 hw1 => ?_
      have hs1 : Same w w1 := by rw [hw1]; exact (Frm.refl _ _).alloc _
      have hBXa : Blk w1 (w.heap.size) 37 #[.int .i64 Na, .slice Aa wsa.length Ca] := by
        rw [hw1]
        have := (Blk.new w 37 #[.int .i64 Na, .slice Aa wsa.length Ca])
        simpa using this
      clear hw1
      have cXa0 : w1.cell? ⟨w.heap.size, 0, none⟩ = some (.int .i64 Na) := hBXa.cell 0
      have cXa1 : w1.cell? ⟨w.heap.size, 1, none⟩ = some (.slice Aa wsa.length Ca) := hBXa.cell 1
      have lXa := hBXa.lt
      have fXa0 := hBXa.free 0
      have fXa1 := hBXa.free 1
      have HBXa := Lib.hid hBXa
      have HS1 := Lib.hid hs1
      clear hs1 hBXa
      have HOKa := Lib.hid (H.out.same HS1.out)
      go_wp2_with (fail)
      refine call_world fun w2 hw2 => ?_
      have hs2 : Same w1 w2 := by rw [hw2]; exact (Frm.refl _ _).alloc _
      have hBL : Blk w2 w1.heap.size 37 #[.int .i64 Na, .slice Aa wsa.length Ca] := by rw [hw2]; exact Blk.new _ _ _
      have htbs : Tbs w2 w1.heap.size [⟨Na, Aa, Ca, wsa⟩] := by
        intro i t hi
        match i, hi with
        | 0, hi =>
          simp only [List.getElem?_cons_zero, Option.some.injEq] at hi
          subst hi
          exact ⟨hBL.lt, hBL.cell 0, hBL.cell 1⟩
        | i + 1, hi => simp at hi
      have hfc := form_any w1.heap.size 1 1 [⟨Na, Aa, Ca, wsa⟩] w2 rfl (by decide) htbs (fun t ht => by
        simp only [List.mem_cons, List.not_mem_nil, or_false] at ht
        rcases ht with rfl
        · exact (HOKa.out).same hs2)
      rw [HFM.out] at hfc
      refine hfc.mono ?_
      clear hfc htbs hBL hw2
      rintro e w3 ⟨rfl, hs3⟩
      have hs13 : Same w1 w3 := hs2.trans hs3 (fun _ _ h => h)
      clear hs2 hs3
      replace HBXa := Lib.hid (HBXa.out.frm hs13 id)
      replace cXa0 : w3.cell? ⟨w.heap.size, 0, none⟩ = some (.int .i64 Na) := HBXa.out.cell 0
      replace cXa1 : w3.cell? ⟨w.heap.size, 1, none⟩ = some (.slice Aa wsa.length Ca) := HBXa.out.cell 1
      replace lXa := HBXa.out.lt
      replace fXa0 := HBXa.out.free 0
      replace fXa1 := HBXa.out.free 1
      replace HS1 := Lib.hid (HS1.out.trans hs13 (fun _ _ h => h))
      clear hs13
      go_wp2
      go_ret
      exact ⟨rfl, HS1.out⟩
end Go.Proofs.Ytakepdkokjecoaa


/- Truth tables: Cofactor and Exists of the program. -/
namespace Go.Proofs.Ytakepdkokjecoaa
open Go.RowKit Go.Tk

theorem ofE_ok {N v : Int} {ws : List Nat} (h : ofE N v ws = 0) : ∃ n V : Nat, N = n ∧ v = V ∧ FormN n ws ∧ V < n := by
  unfold ofE at h
  cases hf : frm N ws with
  | false => rw [hf, if_neg (by decide)] at h; cases h
  | true =>
    rw [hf, if_pos rfl] at h
    obtain ⟨n, rfl, hn⟩ := frm_true hf
    split at h
    · cases h
    · rename_i h1
      exact ⟨n, v.toNat, rfl, by omega, hn, by omega⟩
theorem fm_tabs {n : Nat} {A0 A1 : Option Addr} {C0 C1 : Nat} {F G : Nat → Bool} (h : n ≤ 16) : fm [⟨n, A0, C0, tab n F⟩, ⟨n, A1, C1, tab n G⟩] = true := by
  have h1 : frm n (tab n F) = true := frm_nat.2 (tab_form h)
  have h2 : frm n (tab n G) = true := frm_nat.2 (tab_form h)
  simp [fm, Tb.frm, h1, h2]
/-- some value of v -/
def exF (v : Nat) (ws : List Nat) : Nat → Bool := fun i => hfF v false ws i || hfF v true ws i
set_option maxRecDepth 100000 in
set_option maxHeartbeats 4000000 in
theorem Cofactor_any (Na : Int) (Aa : Option Addr) (Ca : Nat) (wsa : List Nat) (v : Int) (b : Bool) (w : World) (h : TbOk w ⟨Na, Aa, Ca, wsa⟩) : Calls Try.prog 38 #[.agg #[.int .i64 Na, .slice Aa wsa.length Ca], .int .i64 v, .bool b] w (RetA w Na (tab Na.toNat (hfF v.toNat b wsa)) (ofE Na v wsa)) := by
  have H := Lib.hid h
  clear h
  have hof := fun (w : World) (h : TbOk w ⟨Na, Aa, Ca, wsa⟩) => of_any Na Aa Ca wsa v w h
  obtain ⟨c, hc⟩ : ∃ c, ofE Na v wsa = c := ⟨_, rfl⟩
  rw [hc] at hof ⊢
  have HOF := Lib.hid hof
  clear hof
  by_cases h0 : ¬ c = 0
  · have h0' : (c != 0) = true := by simpa using h0
    unfold RetA
    rw [show ansN Na c = 0 by unfold ansN; rw [if_neg h0], show ansL (tab Na.toNat (hfF v.toNat b wsa)) c = [] by unfold ansL; rw [if_neg h0]]
    clear hc h0
    go_enter Try.func38, Try.ntmps38
    go_upto_region 1 with fail
    refine wp_world fun w1 hw1 => ?_
    have hs1 : Same w w1 := by rw [hw1]; exact ((Frm.refl _ _).alloc _).alloc _
    have hBXa : Blk w1 (w.heap.size) 37 #[.int .i64 Na, .slice Aa wsa.length Ca] := by
      rw [hw1]
      have := ((Blk.new w 37 #[.int .i64 Na, .slice Aa wsa.length Ca]).alloc (.cells #[.int .i64 0, .slice none 0 0] 37))
      simpa using this
    have hBR : Blk w1 (w.heap.size + 1) 37 #[.int .i64 0, .slice none 0 0] := by
      rw [hw1]
      have := (Blk.new (w.alloc (.cells #[.int .i64 Na, .slice Aa wsa.length Ca] 37)) 37 #[.int .i64 0, .slice none 0 0])
      simpa using this
    clear hw1
    obtain ⟨R, hR⟩ : ∃ b, w.heap.size + 1 = b := ⟨_, rfl⟩
    rw [hR] at hBR ⊢
    have leR : w.heap.size ≤ R := by omega
    have neXaR : w.heap.size ≠ R := by omega
    clear hR
    have cXa0 : w1.cell? ⟨w.heap.size, 0, none⟩ = some (.int .i64 Na) := hBXa.cell 0
    have cXa1 : w1.cell? ⟨w.heap.size, 1, none⟩ = some (.slice Aa wsa.length Ca) := hBXa.cell 1
    have lXa := hBXa.lt
    have fXa0 := hBXa.free 0
    have fXa1 := hBXa.free 1
    have HBXa := Lib.hid hBXa
    have cR0 : w1.cell? ⟨R, 0, none⟩ = some (.int .i64 0) := hBR.cell 0
    have cR1 : w1.cell? ⟨R, 1, none⟩ = some (.slice none 0 0) := hBR.cell 1
    have lR := hBR.lt
    have fR0 := hBR.free 0
    have fR1 := hBR.free 1
    have HBR := Lib.hid hBR
    have HS1 := Lib.hid hs1
    clear hs1 hBXa hBR
    go_wp2_with (fail)
    refine (HOF.out w1 (H.out.same HS1.out)).mono ?_
    rintro e w3 ⟨rfl, hs13⟩
    replace HBXa := Lib.hid (HBXa.out.frm hs13 id)
    replace cXa0 : w3.cell? ⟨w.heap.size, 0, none⟩ = some (.int .i64 Na) := HBXa.out.cell 0
    replace cXa1 : w3.cell? ⟨w.heap.size, 1, none⟩ = some (.slice Aa wsa.length Ca) := HBXa.out.cell 1
    replace lXa := HBXa.out.lt
    replace fXa0 := HBXa.out.free 0
    replace fXa1 := HBXa.out.free 1
    replace HBR := Lib.hid (HBR.out.frm hs13 id)
    replace cR0 : w3.cell? ⟨R, 0, none⟩ = some (.int .i64 0) := HBR.out.cell 0
    replace cR1 : w3.cell? ⟨R, 1, none⟩ = some (.slice none 0 0) := HBR.out.cell 1
    replace lR := HBR.out.lt
    replace fR0 := HBR.out.free 0
    replace fR1 := HBR.out.free 1
    replace HS1 := Lib.hid (HS1.out.trans hs13 (fun _ _ h => h))
    clear hs13
    go_wp2
    refine wp_post fun we hwe => ?_
    have hBE : Blk we R 37 #[.int .i64 0, .slice none 0 0] := by
      rw [hwe]
      have := (HBR.out.set 0 (.int .i64 0)).set 1 (.slice none 0 0)
      simpa using this
    have hSE : Same w we := by rw [hwe]; exact (HS1.out.setNew 0 _ leR).setNew 1 _ leR
    have hr0 : we.cell? ⟨R, 0, none⟩ = some (.int .i64 0) := hBE.cell 0
    have hr1 : we.cell? ⟨R, 1, none⟩ = some (.slice none 0 0) := hBE.cell 1
    clear hwe hBE
    refine bodyPost_ret (v := .tuple #[.agg #[.int .i64 0, .slice none 0 0], .int .i64 c]) (by simp [results, Try.results38, go_sem, hr0, hr1]) rfl ?_
    exact ⟨none, 0, rfl, NewT.nil hSE⟩
  replace h0 : c = 0 := by omega
  subst h0
  obtain ⟨n, V, rfl, rfl, hf, hv⟩ := ofE_ok hc
  have hn := hf.n16
  unfold RetA
  rw [show ansN n 0 = n from rfl, show ansL (tab (n : Int).toNat (hfF (V : Int).toNat b wsa)) 0 = tab n (hfF V b wsa) from rfl]
  have HF := Lib.hid hf
  have HV := Lib.hid hv
  clear hc hf hv
  go_enter Try.func38, Try.ntmps38
  go_upto_region 1 with fail
  refine wp_world fun w1 hw1 => ?_
  have hs1 : Same w w1 := by rw [hw1]; exact ((Frm.refl _ _).alloc _).alloc _
  have hBXa : Blk w1 (w.heap.size) 37 #[.int .i64 n, .slice Aa wsa.length Ca] := by
    rw [hw1]
    have := ((Blk.new w 37 #[.int .i64 n, .slice Aa wsa.length Ca]).alloc (.cells #[.int .i64 0, .slice none 0 0] 37))
    simpa using this
  have hBR : Blk w1 (w.heap.size + 1) 37 #[.int .i64 0, .slice none 0 0] := by
    rw [hw1]
    have := (Blk.new (w.alloc (.cells #[.int .i64 n, .slice Aa wsa.length Ca] 37)) 37 #[.int .i64 0, .slice none 0 0])
    simpa using this
  clear hw1
  obtain ⟨R, hR⟩ : ∃ b, w.heap.size + 1 = b := ⟨_, rfl⟩
  rw [hR] at hBR ⊢
  have leR : w.heap.size ≤ R := by omega
  have neXaR : w.heap.size ≠ R := by omega
  clear hR
  have cXa0 : w1.cell? ⟨w.heap.size, 0, none⟩ = some (.int .i64 n) := hBXa.cell 0
  have cXa1 : w1.cell? ⟨w.heap.size, 1, none⟩ = some (.slice Aa wsa.length Ca) := hBXa.cell 1
  have lXa := hBXa.lt
  have fXa0 := hBXa.free 0
  have fXa1 := hBXa.free 1
  have HBXa := Lib.hid hBXa
  have cR0 : w1.cell? ⟨R, 0, none⟩ = some (.int .i64 0) := hBR.cell 0
  have cR1 : w1.cell? ⟨R, 1, none⟩ = some (.slice none 0 0) := hBR.cell 1
  have lR := hBR.lt
  have fR0 := hBR.free 0
  have fR1 := hBR.free 1
  have HBR := Lib.hid hBR
  have HS1 := Lib.hid hs1
  clear hs1 hBXa hBR
  go_wp2_with (fail)
  refine (HOF.out w1 (H.out.same HS1.out)).mono ?_
  rintro e w3 ⟨rfl, hs13⟩
  replace HBXa := Lib.hid (HBXa.out.frm hs13 id)
  replace cXa0 : w3.cell? ⟨w.heap.size, 0, none⟩ = some (.int .i64 n) := HBXa.out.cell 0
  replace cXa1 : w3.cell? ⟨w.heap.size, 1, none⟩ = some (.slice Aa wsa.length Ca) := HBXa.out.cell 1
  replace lXa := HBXa.out.lt
  replace fXa0 := HBXa.out.free 0
  replace fXa1 := HBXa.out.free 1
  replace HBR := Lib.hid (HBR.out.frm hs13 id)
  replace cR0 : w3.cell? ⟨R, 0, none⟩ = some (.int .i64 0) := HBR.out.cell 0
  replace cR1 : w3.cell? ⟨R, 1, none⟩ = some (.slice none 0 0) := HBR.out.cell 1
  replace lR := HBR.out.lt
  replace fR0 := HBR.out.free 0
  replace fR1 := HBR.out.free 1
  replace HS1 := Lib.hid (HS1.out.trans hs13 (fun _ _ h => h))
  clear hs13
  go_wp2_with (fail)
  refine (half_any n V b Aa Ca wsa w3 (H.out.same HS1.out) HF.out HV.out).mono ?_
  rintro e w4 ⟨Aq, Cq, rfl, hNT⟩
  have hoq := hNT.1
  have hfq := hNT.2.1
  have hsq := hNT.2.2
  have hRq : ∀ a, Aq = some a → a.block ≠ R := fun a ha h => by
    have := hfq a.block ⟨a, ha, rfl⟩
    omega
  have HBRq := Lib.hid (HBR.out.frm hsq id)
  have HSq := Lib.hid (HS1.out.trans hsq (fun _ _ h => h))
  have hfq' : Fresh w.heap.size Aq := fun b hb => by have := hfq b hb; have := HS1.out.size; omega
  have HOQ := Lib.hid hoq
  have HFQ := Lib.hid hfq'
  have hcR0 : w4.cell? ⟨R, 0, none⟩ = some (.int .i64 0) := HBRq.out.cell 0
  have hcR1 : w4.cell? ⟨R, 1, none⟩ = some (.slice none 0 0) := HBRq.out.cell 1
  have hfR0 := HBRq.out.free 0
  have hfR1 := HBRq.out.free 1
  have hlR := HBRq.out.lt
  clear hNT hoq hfq hsq hfq'
  go_wp2
  refine wp_post fun we hwe => ?_
  have hBE : Blk we R 37 #[.int .i64 n, .slice Aq (tab n (hfF V b wsa)).length Cq] := by
    rw [hwe]
    have := (HBRq.out.set 0 (.int .i64 n)).set 1 (.slice Aq (tab n (hfF V b wsa)).length Cq)
    simpa using this
  have hSE : Same w we := by rw [hwe]; exact (HSq.out.setNew 0 _ leR).setNew 1 _ leR
  have hOE : OwnW we Aq (tab n (hfF V b wsa)).length Cq (tab n (hfF V b wsa)) := by
    rw [hwe]
    exact (Own.far (p := ⟨R, 0, none⟩) HOQ.out hRq _).far (p := ⟨R, 1, none⟩) hRq _
  have hr0 : we.cell? ⟨R, 0, none⟩ = some (.int .i64 n) := hBE.cell 0
  have hr1 : we.cell? ⟨R, 1, none⟩ = some (.slice Aq (tab n (hfF V b wsa)).length Cq) := hBE.cell 1
  clear hwe hBE
  refine bodyPost_ret (v := .tuple #[.agg #[.int .i64 n, .slice Aq (tab n (hfF V b wsa)).length Cq], .int .i64 0]) (by simp [results, Try.results38, go_sem, hr0, hr1]) rfl ?_
  exact ⟨Aq, Cq, rfl, hOE, HFQ.out, hSE⟩
end Go.Proofs.Ytakepdkokjecoaa


/- math/bits.OnesCount64: walked. -/
namespace Go.Proofs.Ytakepdkokjecoaa
open Go.RowKit Go.Tk

end Go.Proofs.Ytakepdkokjecoaa


/- Truth tables: the reference's words, Form, bit, with, count. -/
namespace Go.Proofs.Ytakepdkokjecoaa
open Go.RowKit Go.Tk

theorem bit_int (i v : Nat) : (((i : Int) / ((2 ^ v : Nat) : Int) % 2) == 1) = i.testBit v := by
  rw [testBit_dm, ← Int.natCast_ediv, Bool.eq_iff_iff, beq_iff_eq, decide_eq_true_eq]
  generalize i / 2 ^ v = x
  omega
end Go.Proofs.Ytakepdkokjecoaa


/- Truth tables: Form of the reference. -/
namespace Go.Proofs.Ytakepdkokjecoaa
open Go.RowKit Go.Tk

end Go.Proofs.Ytakepdkokjecoaa


/- Truth tables: the reference's Values. -/
namespace Go.Tk
/-- values in a row -/
def vals (M : Nat) (F : Nat → Bool) : List Bool := (List.range M).map F
def mixF (G F : Nat → Bool) (k : Nat) : Nat → Bool := fun i => if i < k then G i else F i
theorem vals_len (M : Nat) (F : Nat → Bool) : (vals M F).length = M := by simp [vals]
theorem vals_get {M i : Nat} {F : Nat → Bool} (h : i < M) : (vals M F)[i]? = some (F i) := by simp [vals, h]
theorem vals_congr {M : Nat} {F G : Nat → Bool} (h : ∀ i, i < M → F i = G i) : vals M F = vals M G := by
  unfold vals
  apply List.map_congr_left
  intro i hi
  exact h i (List.mem_range.1 hi)
theorem vals_zero (M : Nat) (G F : Nat → Bool) : vals M (mixF G F 0) = vals M F := vals_congr fun i _ => by unfold mixF; rw [if_neg (by omega)]
theorem vals_false (M : Nat) : vals M (fun _ => false) = List.replicate M false := by
  unfold vals
  simp [List.map_const']
theorem vals_full (M : Nat) (G F : Nat → Bool) : vals M (mixF G F M) = vals M G := vals_congr fun i h => by unfold mixF; rw [if_pos h]
theorem vals_set {M k : Nat} {G F : Nat → Bool} (h : k < M) : (vals M (mixF G F k)).set k (G k) = vals M (mixF G F (k + 1)) := by
  apply List.ext_getElem?
  intro i
  rcases Nat.lt_or_ge i M with hi | hi
  · rw [List.getElem?_set, vals_len, vals_get hi, vals_get hi]
    split
    · rename_i he; subst he; simp [mixF]
    · rename_i he
      congr 1
      unfold mixF
      by_cases h1 : i < k
      · rw [if_pos h1, if_pos (by omega)]
      · rw [if_neg h1, if_neg (by omega)]
  · rw [List.getElem?_eq_none (by simp [vals_len, hi]), List.getElem?_eq_none (by rw [vals_len]; exact hi)]
theorem mix_at (G F : Nat → Bool) (k : Nat) : mixF G F k k = F k := by unfold mixF; rw [if_neg (by omega)]
end Go.Tk
namespace Go.Proofs.Ytakepdkokjecoaa
open Go.RowKit Go.Tk

abbrev OwnB (w : World) (A : Option Addr) (N C : Nat) (bs : List Bool) : Prop := Row1 w 4 (fun b : Bool => .bool b) A N C bs
abbrev BL (w : World) (A : Option Addr) (n : Nat) (bs : List Bool) : Prop := Sl w 1 (fun b : Bool => [.bool b]) A n bs
theorem BL.at1 {w : World} {A : Option Addr} {n : Nat} {bs : List Bool} (h : BL w A n bs) {i : Nat} {x : Bool} (hi : bs[i]? = some x) : ∃ b off, A = some ⟨b, off, none⟩ ∧ b < w.heap.size ∧ w.cell? ⟨b, off + i, none⟩ = some (.bool x) := by
  obtain ⟨b, off, h1, h2, h3⟩ := h.get i x hi
  refine ⟨b, off, h1, h2, ?_⟩
  have := h3 0 (by omega)
  simpa using this
/-- a row of booleans of its own -/
def NewB (w : World) (bs : List Bool) (A : Option Addr) (C : Nat) (w' : World) : Prop := OwnB w' A bs.length C bs ∧ Fresh w.heap.size A ∧ Same w w'
theorem info_bool : (Try.prog.info? 4).map (fun i => (i.zero, i.size, i.bytes)) = some (some (.bool false), 1, 1) := by kernel_rfl
theorem pow_lt_shift {n : Nat} (h : n ≤ 16) : wrap64 ((2 : Int) ^ n) = ((2 ^ n : Nat) : Int) := by
  have hp := pow_le16 h
  rw [pow_int]
  generalize 2 ^ n = p at hp
  exact IntWalk.wrap64_in _ (by omega)
theorem pow_lt_shift2 {n : Nat} (h : n ≤ 16) : IntKind.i64.wrap ((2 : Int) ^ n) = ((2 ^ n : Nat) : Int) := by
  have hp := pow_le16 h
  rw [pow_int]
  generalize 2 ^ n = p at hp
  exact IntWalk.i64_in _ (by omega)
theorem bit_val (x r : Nat) : (((x / 2 ^ r % 2 : Nat) : Int) == 1) = x.testBit r := by
  rw [testBit_dm, Bool.eq_iff_iff, beq_iff_eq, decide_eq_true_eq]
  omega
end Go.Proofs.Ytakepdkokjecoaa


/- Truth tables: the reference's Of. -/
namespace Go.Proofs.Ytakepdkokjecoaa
open Go.RowKit Go.Tk

end Go.Proofs.Ytakepdkokjecoaa


/- Truth tables: Same of the reference; the error of a table and a variable. -/
namespace Go.Proofs.Ytakepdkokjecoaa
open Go.RowKit Go.Tk

/-- alike -/
def sm (Na Nb : Int) (wsa wsb : List Nat) : Bool := decide (Na = Nb ∧ wsa = wsb)
end Go.Proofs.Ytakepdkokjecoaa


/- Truth tables: the reference's DocCofactor, DocExists. -/
namespace Go.Proofs.Ytakepdkokjecoaa
open Go.RowKit Go.Tk

theorem OwnB.cell {w : World} {sb N C M i : Nat} {F : Nat → Bool} (h : OwnB w (some ⟨sb, 0, none⟩) N C (vals M F)) (hi : i < M) : sb < w.heap.size ∧ w.cell? ⟨sb, i, none⟩ = some (.bool (F i)) := by
  obtain ⟨sb', h1, h2, h3⟩ := Own.at1 (c := fun b : Bool => .bool b) h (vals_get hi)
  injection h1 with h1
  injection h1 with h1
  subst h1
  exact ⟨h2, h3⟩
theorem OwnB.put {w : World} {sb N C M k : Nat} {G Z : Nat → Bool} (h : OwnB w (some ⟨sb, 0, none⟩) N C (vals M (mixF G Z k))) (hk : k < M) : OwnB (w.setCell ⟨sb, k, none⟩ (.bool (G k))) (some ⟨sb, 0, none⟩) N C (vals M (mixF G Z (k + 1))) := by
  rw [← vals_set hk]
  exact Own.put1 (c := fun b : Bool => .bool b) h (by rw [vals_len]; exact hk) (G k)
end Go.Proofs.Ytakepdkokjecoaa


/- Truth tables: Count of the program; Twin of the reference; small, alike. -/
namespace Go.Proofs.Ytakepdkokjecoaa
open Go.RowKit Go.Tk

theorem u_flat : ∀ ws : List Nat, ws.flatMap ucell = ws.map fun x : Nat => Value.int .u64 (x : Int)
  | [] => rfl
  | x :: ws => by rw [List.flatMap_cons, List.map_cons, u_flat ws]; rfl
theorem same_grown {w0 w1 : World} {A : Option Addr} {N C : Nat} (hg : w0.grownBy w1 (Value.slice A N C).ownBlock) (hA : Fresh w0.heap.size A) : Same w0 w1 := (Frm.refl _ _).grown hg (fun g hg => .inr (hA g (ownBlock_row.1 hg)))
/-- the ones of the first k words -/
def popS (ws : List Nat) (k : Nat) : Nat := ((ws.take k).map popc).sum
theorem popc_le (x : Nat) : popc x ≤ 64 := cntB_le _ 64
theorem popS_succ {ws : List Nat} {k x : Nat} (h : ws[k]? = some x) : popS ws (k + 1) = popS ws k + popc x := by
  unfold popS
  rw [List.take_add_one, h]
  simp
theorem popS_le (ws : List Nat) : ∀ k, popS ws k ≤ 64 * k
  | 0 => by simp [popS]
  | k + 1 => by
    have ih := popS_le ws k
    cases h : ws[k]? with
    | none =>
      have : popS ws (k + 1) = popS ws k := by
        unfold popS
        rw [List.take_add_one, h]
        simp
      omega
    | some x =>
      rw [popS_succ h]
      have := popc_le x
      omega
end Go.Proofs.Ytakepdkokjecoaa


/- Truth tables: small, alike, awake. -/
namespace Go.Tk
open Go.RowKit Go.Sort
theorem effStep_on {P : Program} {ops : Array Oper} {C : World → Prop} {o : Oper} {a : Act} {w : World} {K : Act → World → Prop} (hg : Region.wanted o (yielded ops a.tmps) = true)
    (h : ∀ K' : Act → World → Prop, (∀ a w, C w → K a w → K' a w) → o.wp P a w K' (fun _ _ _ => False)) : effStep P ops C o a w K := by
  have h1 := h (fun a w => C w ∧ K a w) (fun a w hc hw => ⟨hc, hw⟩)
  unfold effStep
  rw [if_pos hg]
  exact h1
end Go.Tk
namespace Go.Proofs.Ytakepdkokjecoaa
open Go.RowKit Go.Tk

/-- a table of one word that lies in a block -/
structure Tq (w : World) (T : Nat) (A : Option Addr) (C x : Nat) : Prop where
  blk : Blk w T 37 #[.int .i64 2, .slice A 1 C]
  own : OwnW w A 1 C [x]
theorem Tq.same {w w' : World} {T : Nat} {A : Option Addr} {C x : Nat} (h : Tq w T A C x) (hs : Same w w') : Tq w' T A C x := ⟨h.blk.frm hs id, Own.frm h.own hs (fun _ _ => id)⟩
theorem Tq.make {w w' : World} {A : Option Addr} {C x : Nat} (h : OwnW w A 1 C [x]) (hw : w' = w.alloc (.cells #[.int .i64 2, .slice A 1 C] 37)) : Tq w' w.heap.size A C x ∧ Same w w' := by
  subst hw
  have hs : Same w (w.alloc (.cells #[.int .i64 2, .slice A 1 C] 37)) := (Frm.refl _ _).alloc _
  exact ⟨⟨Blk.new w _ _, Own.frm h hs (fun _ _ => id)⟩, hs⟩
theorem ok_own {w : World} {A : Option Addr} {C x : Nat} (h : OwnW w A 1 C [x]) (hx : x < 18446744073709551616) : TbOk w ⟨2, A, C, [x]⟩ :=
  ⟨h.sl ucell_len, fun y hy => by rw [List.mem_singleton.1 hy]; exact hx⟩
end Go.Proofs.Ytakepdkokjecoaa


/- Truth tables: TruthGives: the walk. -/
namespace Go.Tk
open Go.RowKit
theorem Sl.map {w : World} {m n : Nat} {α β : Type} {f : β → List Value} {A : Option Addr} {xs : List α} (g : α → β) (h : Sl w m (fun x => f (g x)) A n xs) : Sl w m f A n (xs.map g) :=
  ⟨by rw [List.length_map]; exact h.len, fun i y hy => by
    rw [List.getElem?_map] at hy
    obtain ⟨x, hx, rfl⟩ := Option.map_eq_some_iff.1 hy
    exact h.get i x hx⟩
end Go.Tk
namespace Go.Proofs.Ytakepdkokjecoaa
open Go.RowKit Go.Tk

abbrev tKs : List Leaf := [.int .i64, .slice 8 [.int .u64]]
def Tb.cells (t : Tb) : List Value := [.int .i64 t.N, .slice t.A t.ws.length t.C]
/-- a table that came in -/
structure TbIn (w : World) (t : Tb) : Prop where
  ok : TbOk w t
  room : t.ws.length * 8 ≤ 140737488351232
theorem u_of {w : World} : ∀ l, CellsOk w [.int .u64] l → ∃ x : {x : Nat // x < 18446744073709551616}, l = ucell x.1 := by
  rintro l ⟨v, vs, rfl, ⟨x, rfl, hx⟩, rfl⟩
  obtain ⟨h0, h1⟩ := bounds_u64 hx
  obtain ⟨n, rfl⟩ := Int.eq_ofNat_of_zero_le h0
  exact ⟨⟨n, by omega⟩, rfl⟩
theorem tb_of {w : World} : ∀ l, CellsOk w tKs l → ∃ t : {t : Tb // TbIn w t}, l = t.1.cells := by
  rintro l ⟨v, vs, rfl, ⟨N, rfl, _⟩, v2, vs2, rfl, h2, rfl⟩
  obtain ⟨A, n, C, xs, rfl, hnc, _, hb, hs⟩ := slice_ok (fun x : {x : Nat // x < 18446744073709551616} => ucell x.1) (by decide) u_of h2
  have h := Sl.map (f := ucell) Subtype.val hs
  obtain rfl := h.len
  refine ⟨⟨⟨N, A, C, xs.map Subtype.val⟩, ⟨⟨h, fun x hx => ?_⟩, Nat.le_trans (Nat.mul_le_mul_right 8 hnc) hb⟩⟩, rfl⟩
  obtain ⟨y, _, rfl⟩ := List.mem_map.1 hx
  exact y.2
theorem ofE_len {N v : Int} {ws : List Nat} {F : Nat → Bool} : (ansL (tab N.toNat F) (ofE N v ws)).length ≤ 1000000000000000000 := by
  unfold ansL
  split
  · rename_i h
    obtain ⟨n, V, rfl, _, hf, _⟩ := ofE_ok h
    rw [tab_len]
    have := nw_le hf.n16
    have h2 : ((n : Int)).toNat = n := Int.toNat_natCast n
    rw [h2]
    omega
  · simp
theorem sm_self (N : Int) (ws : List Nat) : sm N N ws ws = true := by simp [sm]
end Go.Proofs.Ytakepdkokjecoaa


/- Shape: of, given. -/
namespace Go.Tk
open Go.RowKit Go.Maps
theorem cell_iter {w : World} {r : Nat} {m : Option Nat} {a b : _} {c : _} (h : w.heap[r]? = some (.mapIter m a b c)) {p : Addr} (hp : p.block = r) : w.cell? p = none := by
  unfold World.cell?
  rw [hp, h]
theorem Sl.turnIter {w w' : World} {r : Nat} (hn : ∀ p : Addr, p.block = r → w.cell? p = none) (hf : Frm (fun x => x = r) w w') {m : Nat} {α : Type} {f : α → List Value} {A : Option Addr} {N : Nat} {xs : List α} (hlen : ∀ x, (f x).length = m) (hs : Sl w m f A N xs) : Sl w' m f A N xs := by
  refine ⟨hs.len, fun i x hi => ?_⟩
  obtain ⟨b0, off, h1, h2, h3⟩ := hs.get i x hi
  refine ⟨b0, off, h1, Nat.lt_of_lt_of_le h2 hf.size, fun j hj => ?_⟩
  have hc := h3 j hj
  have hlt : j < (f x).length := by rw [hlen]; exact hj
  rw [List.getElem?_eq_getElem hlt] at hc ⊢
  refine (hf.cell (p := ⟨b0, off + i * m + j, none⟩) h2 (fun he => ?_)).trans hc
  rw [hn _ he] at hc
  cases hc
end Go.Tk
namespace Go.Proofs.Ytakepdkokjecoaa
open Go.RowKit Go.Tk Go.Maps

theorem Tb.cells_len (t : Tb) : (Tb.cells t).length = 2 := rfl
theorem ST.iter {lo : Nat} {w w' : World} {b n r : Nat} {D : DataW Value} {N : Int} {M : List Nat → Prop} (h : ST lo w b n D N M) (hn : ∀ p : Addr, p.block = r → w.cell? p = none) (hbr : b ≠ r) (hf : Frm (fun x => x = r) w w') : ST lo w' b n D N M :=
  ⟨ownsMap_frm h.own hf hbr, h.dom, h.cod, fun ws hw => by obtain ⟨A, C, h1, h2, h3⟩ := h.val ws hw; exact ⟨A, C, h1, Sl.turnIter hn hf ucell_len h2, h3⟩, h.good⟩
set_option maxRecDepth 100000 in
set_option maxHeartbeats 8000000 in
theorem sof_any (A : Option Addr) (n C : Nat) (xs : List Tb) (N : Int) (w : World) (hs : Sl w 2 Tb.cells A n xs) (hok : ∀ t ∈ xs, TbOk w t ∧ t.N = N ∧ 0 < t.ws.length ∧ t.ws.length ≤ 1024) (hn : n ≤ 1000000000000000000) :
    Calls Try.prog 27 #[.slice A n C] w fun e w' => ∃ b D, e = .returned (.map (some b)) ∧ Same w w' ∧ w.heap.size ≤ b ∧ ST 0 w' b n D N (fun ws => ∃ t ∈ xs, ws = t.ws) := by
  have H := Lib.hid hs
  have HOK := Lib.hid hok
  have HL := Lib.hid hs.len
  clear hs hok
  have hmm := @run_makeMap Try.prog
  go_enter Try.func27, Try.ntmps27
  go_upto_region 2 with fail
  refine wp_world fun w1 hw1 => ?_
  have hs1 : Same w w1 := by rw [hw1]; exact (Frm.refl _ _).alloc _
  have hst := ST.made 0 w N
  rw [← hw1] at hst
  have hbw : w.heap.size ≤ w.heap.size := Nat.le_refl _
  obtain ⟨b, hb⟩ : ∃ z, z = w.heap.size := ⟨_, rfl⟩
  have hbw : w.heap.size ≤ b := Nat.le_of_eq hb.symm
  rw [← hb] at hst ⊢
  have HS1 := Lib.hid hs1
  have HST := Lib.hid hst
  clear hw1 hb hs1 hst hmm
  go_wp2
  go_loopw [9] (fun i wi => ∃ (k : Nat) (D : DataW Value), k ≤ n ∧ i = .int .i64 k ∧ Same w wi ∧ ST 0 wi b k D N (fun ws => ∃ t ∈ xs.take k, ws = t.ws)) (fun i _ => n - (intOf i).toNat)
  case atStart => exact ⟨0, _, by omega, rfl, HS1.out, HST.out.iff (fun ws => by simp)⟩
  case round =>
    clear HS1 HST
    obtain ⟨k, D, hk, rfl, hs, hst⟩ := hrel
    by_cases hlt : k < n
    · obtain ⟨t, ht⟩ : ∃ t, xs[k]? = some t := ⟨_, List.getElem?_eq_getElem (by rw [← HL.out]; exact hlt)⟩
      obtain ⟨bl, o, hA, hbl, hc⟩ := (Sl.same H.out hs).get k t ht
      have c0 : wr.cell? ⟨bl, o + k * 2, none⟩ = some (.int .i64 t.N) := hc 0 (by omega)
      have c1 : wr.cell? ⟨bl, o + k * 2 + 1, none⟩ = some (.slice t.A t.ws.length t.C) := hc 1 (by omega)
      obtain ⟨hto, htN, ht0, ht1⟩ := HOK.out t (List.mem_of_getElem? ht)
      subst hA
      have hk0 : (0 : Int) ≤ k := by omega
      have hk1 : (k : Int) < n := by omega
      have HST := Lib.hid hst
      have HS := Lib.hid hs
      have HT := Lib.hid ht
      have HTO := Lib.hid (hto.same hs)
      clear hc hst hs ht hto
      obtain ⟨tN, tA, tC, tw⟩ := t
      simp only at c0 c1 htN ht0 ht1
      subst htN
      go_upto_region 5 with fail
      refine wp_world fun w2 hw2 => ?_
      have hs2 : Same wr w2 := by rw [hw2]; exact (Frm.refl _ _).alloc _
      have hBX : Blk w2 wr.heap.size 37 #[.int .i64 tN, .slice tA tw.length tC] := by rw [hw2]; exact Blk.new _ _ _
      clear c0 c1 hbl hw2
      obtain ⟨X, hX⟩ : ∃ z, z = wr.heap.size := ⟨_, rfl⟩
      rw [← hX] at hBX ⊢
      have cX0 : w2.cell? ⟨X, 0, none⟩ = some (.int .i64 tN) := hBX.cell 0
      have cX1 : w2.cell? ⟨X, 1, none⟩ = some (.slice tA tw.length tC) := hBX.cell 1
      have lX := hBX.lt
      replace HS := Lib.hid (HS.out.trans hs2 (fun _ _ h => h))
      replace HST := Lib.hid (HST.out.same hs2)
      replace HTO := Lib.hid (HTO.out.same hs2)
      clear hX hBX hs2
      go_wp2_with (fail)
      refine (add_any 0 b k D tN _ tA tC tw w2 HST.out (by simp [maxLen] <;> omega) HTO.out.wl (fun _ _ => Nat.zero_le _) ⟨HTO.out.small, ht0, ht1⟩).mono ?_
      rintro e w3 ⟨rfl, hf, D', hst⟩
      have hsw : Same w w3 := HS.out.trans hf (fun i hi (h : i = b) => by omega)
      have hst2 := hst.iff (M' := fun ws => ∃ t ∈ xs.take (k + 1), ws = t.ws) (fun ws => by
        rw [List.take_add_one, HT.out]
        constructor
        · rintro (⟨t, h1, h2⟩ | rfl)
          · exact ⟨t, List.mem_append_left _ h1, h2⟩
          · exact ⟨⟨tN, tA, tC, ws⟩, List.mem_append_right _ (by simp), rfl⟩
        · rintro ⟨t, h1, h2⟩
          rcases List.mem_append.1 h1 with h1 | h1
          · exact .inl ⟨t, h1, h2⟩
          · simp at h1
            subst h1
            exact .inr h2)
      have HS3 := Lib.hid hsw
      have HT3 := Lib.hid hst2
      clear hf hst hsw hst2 cX0 cX1 lX
      go_wp2
      go_roundw
      case rel => exact ⟨k + 1, D', by omega, by go_num, HS3.out, HT3.out⟩
      case measure => simp [intOf] <;> omega
    · obtain rfl : k = n := by omega
      rw [List.take_of_length_le (by rw [← HL.out]; exact Nat.le_refl _)] at hst
      have HST := Lib.hid hst
      clear hst
      go_wp2
      go_ret
      exact ⟨b, D, rfl, hs, hbw, HST.out⟩
/-- how many of a list -/
theorem count_one {α : Type} [DecidableEq α] {L : List α} (hn : L.Nodup) {x0 : α} (hx : x0 ∈ L) {p p' q : α → Bool} (h0 : p x0 = false) (h1 : p' x0 = true) (h2 : ∀ x ∈ L, x ≠ x0 → p' x = p x) : (L.filter fun x => p' x && q x).length = (L.filter fun x => p x && q x).length + (if q x0 then 1 else 0) := by
  induction L with
  | nil => cases hx
  | cons a L ih =>
    obtain ⟨ha, hn'⟩ := List.nodup_cons.1 hn
    by_cases he : a = x0
    · subst he
      have hrest : L.filter (fun x => p' x && q x) = L.filter (fun x => p x && q x) := List.filter_congr fun x hx => by
        rw [h2 x (List.mem_cons_of_mem _ hx) (fun e => ha (e ▸ hx))]
      rw [List.filter_cons, List.filter_cons, h0, h1, hrest]
      cases q a <;> simp
    · have hx' : x0 ∈ L := by
        rcases List.mem_cons.1 hx with h | h
        · exact absurd h.symm he
        · exact h
      have := ih hn' hx' (fun x hx => h2 x (List.mem_cons_of_mem _ hx))
      rw [List.filter_cons, List.filter_cons, h2 a List.mem_cons_self he]
      cases (p a && q a) <;> simp [this] <;> omega
def loT (nn v : Nat) (x : List Nat) : List Nat := tab nn (hfF v false x)
def hiT (nn v : Nat) (x : List Nat) : List Nat := tab nn (hfF v true x)
/-- how many depend on the variable -/
def cntL (nn v : Nat) (L : List (List Nat)) : Nat := (L.filter fun x => decide (loT nn v x ≠ hiT nn v x)).length
theorem ownsMap_size {w : World} {b n : Nat} {D : DataW Value} (h : w.ownsMap Try.prog 9 tabR b n D) : Maps.size D ≤ n := by
  obtain ⟨es, clock, hb, F, hs, rfl⟩ := h
  show (List.foldr DataW.insert [] _).length ≤ n
  rw [length_sorted]
  simpa using hs
theorem tab_good {nn : Nat} (h : nn ≤ 16) (F : Nat → Bool) : Small (tab nn F) ∧ 0 < (tab nn F).length ∧ (tab nn F).length ≤ 1024 := by
  refine ⟨fun x hx => tab_lt x hx, ?_, ?_⟩
  · rw [tab_len]
    unfold nw
    split
    · omega
    · exact Nat.two_pow_pos _
  · rw [tab_len]; exact nw_le h
theorem toList_inj {a b : ByteArray} (h : a.toList = b.toList) : a = b := by
  rw [ByteArray.toList_eq, ByteArray.toList_eq] at h
  cases a; cases b
  simp at h
  rw [h]
theorem cof_ok (nn v : Nat) (b : Bool) (A : Option Addr) (C : Nat) (ws : List Nat) (w : World) (hv : v < nn) (h : TbOk w ⟨(nn : Int), A, C, ws⟩) (hf : FormN nn ws) : Calls Try.prog 38 #[.agg #[.int .i64 nn, .slice A ws.length C], .int .i64 v, .bool b] w (RetTE w nn (tab nn (hfF v b ws)) 0) := by
  have h1 := Cofactor_any (nn : Int) A C ws (v : Int) b w h
  have h2 : ofE (nn : Int) (v : Int) ws = 0 := by
    unfold ofE
    rw [if_pos (frm_nat.2 hf), if_neg (by omega)]
  rw [h2] at h1
  exact h1
theorem left_iff {left : Lit → Bool} {ws x : List Nat} (hs : Small x) (hw : Small ws) : (left (kl x) && !(kl x).sameKey (kl ws)) = false ↔ (left (kl x) = false ∨ x = ws) := by
  by_cases he : x = ws
  · subst he
    rw [WideAt.sameKey_self (kl_key x)]
    simp
  · have : (kl x).sameKey (kl ws) = false := sameKey_ne (fun h => he (kl_inj hs hw h))
    rw [this]
    simp [he]
set_option maxRecDepth 100000 in
set_option maxHeartbeats 16000000 in
theorem given_any (lo0 b n nn v : Nat) (D : DataW Value) (L : List (List Nat)) (w : World) (hst : ST lo0 w b n D (nn : Int) (fun ws => ws ∈ L)) (hnd : L.Nodup) (hf : ∀ ws ∈ L, FormN nn ws) (hv : v < nn) (hn16 : nn ≤ 16) (hn : n ≤ 1000000000000000000) (hLl : L.length ≤ 1000000000000000000) :
    Calls Try.prog 28 #[.map (some b), .int .i64 v] w fun e w' => ∃ b' n' D', e = .returned (.tuple #[.map (some b'), .int .i64 (cntL nn v L : Nat)]) ∧ Same w w' ∧ w.heap.size ≤ b' ∧ n' ≤ 2 * n ∧ ST w.heap.size w' b' n' D' (nn : Int) (fun y => ∃ x ∈ L, y = loT nn v x ∨ y = hiT nn v x) := by
  have HST := Lib.hid hst
  have HF := Lib.hid hf
  have HND := Lib.hid hnd
  clear hst hf hnd
  have hmm := @run_makeMap Try.prog
  go_enter Try.func28, Try.ntmps28
  go_upto_region 2 with fail
  refine wp_world fun w1 hw1 => ?_
  have hs1 : Same w w1 := by rw [hw1]; exact (Frm.refl _ _).alloc _
  obtain ⟨lo1, hlo1⟩ : ∃ z, z = w.heap.size := ⟨_, rfl⟩
  have hsn := ST.made lo1 w (nn : Int)
  rw [← hw1] at hsn
  obtain ⟨bn, hb⟩ : ∃ z, z = w.heap.size := ⟨_, rfl⟩
  have hbw : w.heap.size ≤ bn := Nat.le_of_eq hb.symm
  have hbb : b < bn := by rw [hb]; exact HST.out.own.lt
  rw [← hb] at hsn ⊢
  have hbn1 : bn < w1.heap.size := hsn.own.lt
  rw [hlo1] at hsn
  clear hlo1
  have HS1 := Lib.hid hs1
  have HSN := Lib.hid hsn
  clear hw1 hb hs1 hsn hmm
  refine wp_region_lit ?_
  refine wpList_read 1 ?_
  simp only [List.take_succ_cons, List.take_zero, List.drop_succ_cons, List.drop_zero]
  repeat (any_goals (first | go_big_quiet_step (fail) | quiet_step (fail)))
  refine wpQuiet_nil ?_
  refine wpList_range_own w1 rfl (.tmp 17) 59 rfl 9 37 KS Try.underlying59 tabR b n D rfl (HST.out.same HS1.out).own ?_
  intro w2 hrg hgr hsz
  have hs2 : Same w1 w2 := (Frm.refl _ _).grown hgr (fun g hg => by cases hg)
  obtain ⟨R, hR⟩ : ∃ z, z = w1.heap.size := ⟨_, rfl⟩
  rw [← hR] at hrg ⊢
  have hbR : b < R := by omega
  have hbnR : bn < R := by omega
  have hwR : w.heap.size ≤ R := by omega
  have HRG := Lib.hid hrg
  have HS2 := Lib.hid (HS1.out.trans hs2 (fun _ _ h => h))
  replace HSN := Lib.hid (HSN.out.same hs2)
  have hsD := ownsMap_size HST.out.own
  clear hR hrg hgr hs2 hsz HS1 hbn1
  go_wp2
  go_frame
  go_loopw [7] (fun c wi => ∃ (left : Lit → Bool) (cnt : Nat) (D' : DataW Value) (m : Nat), c = .int .i64 ((L.filter (fun x => !left (kl x) && decide (loT nn v x ≠ hiT nn v x))).length : Nat) ∧ wi.ranges Try.prog 9 tabR b R n D left cnt ∧ ST w.heap.size wi bn m D' (nn : Int) (fun y => ∃ x ∈ L, left (kl x) = false ∧ (y = loT nn v x ∨ y = hiT nn v x)) ∧ m + 2 * cnt ≤ 2 * n ∧ Same w wi) (fun _ wi => wi.rangeLeft b R)
  case atStart =>
    refine ⟨Maps.has D, Maps.size D, _, 0, ?_, HRG.out, HSN.out.iff (fun y => ⟨fun h => h.elim, fun ⟨x, h1, h2, _⟩ => by rw [HST.out.cod x h1] at h2; cases h2⟩), by omega, HS2.out⟩
    rw [List.filter_eq_nil_iff.2 (fun x hx => by rw [HST.out.cod x hx]; simp)]
    rfl
  case round =>
    clear HRG HS2 HSN hsD
    obtain ⟨left, cnt, D', m, hc, hrg, hsn, hm, hs⟩ := hrel
    subst hc
    have HRG := Lib.hid hrg
    have HSN := Lib.hid hsn
    have HS := Lib.hid hs
    clear hrg hsn hs
    go_upto_region 3 with fail
    refine wp_region_lit ?_
    refine wpList_next_ranges wr rfl (.tmp 18) rfl 9 KS tabR Value.string (fun c : Int × Option Addr × Nat × Nat => .agg #[.int .i64 c.1, .slice c.2.1 c.2.2.1 c.2.2.2]) (fun key k hk => by obtain ⟨x, rfl, _⟩ := WideMaps.string_of_keyOf Try.underlying9 hk; exact ⟨x, rfl⟩) (fun v y hv => by obtain ⟨c, h1, _⟩ := tabR_inv hv; exact ⟨c, h1⟩) b R n D left cnt rfl HRG.out ?_ ?_
    · intro hc0 hl0
      have hcount : (L.filter (fun x => !left (kl x) && decide (loT nn v x ≠ hiT nn v x))).length = cntL nn v L := by
        unfold cntL
        congr 1
        exact List.filter_congr fun x _ => by rw [hl0]; simp
      rw [hcount]
      have HST2 := Lib.hid (HSN.out.iff (M' := fun y => ∃ x ∈ L, y = loT nn v x ∨ y = hiT nn v x) (fun y => ⟨fun ⟨x, h1, _, h3⟩ => ⟨x, h1, h3⟩, fun ⟨x, h1, h3⟩ => ⟨x, h1, hl0 _, h3⟩⟩))
      clear hcount hl0 hc0
      go_wp2
      go_ret2
      exact ⟨bn, m, D', rfl, HS.out, hbw, by omega, HST2.out⟩
    · intro x c k y w3 cnt1 hkey hlk hval hat hrg1 hlt hgr hsz hen
      have hhas := Maps.has_true_of_atKey hat
      obtain ⟨ws, hwL, rfl⟩ := HST.out.dom k hhas
      obtain ⟨A, C, hv1, hwl, _⟩ := HST.out.val ws hwL
      have hcc : c = ((nn : Int), A, ws.length, C) := by
        obtain ⟨c', h1, h2⟩ := tabR_inv hval
        have h3 := (hat .nil).symm.trans (hv1 .nil)
        rw [h2] at h3
        injection h3 with h3
        injection h3 with h3
        obtain ⟨c0, c1, c2, c3⟩ := c
        simp at h3
        obtain ⟨e0, e1, e2, e3⟩ := h3
        subst e0 e1 e2 e3
        rfl
      subst hcc
      have hf3 : Frm (fun x => x = R) wr w3 := (Frm.refl _ _).grown hgr (fun g hg => .inl (Option.some.inj hg).symm)
      have hnoc : ∀ p : Addr, p.block = R → wr.cell? p = none := by
        obtain ⟨es, clock, since, seen, c0, _, _, _, _, hrr, _⟩ := HRG.out
        exact fun p hp => cell_iter hrr hp
      have hs3 : Same w w3 := HS.out.trans hf3 (fun i hi (h : i = R) => by omega)
      have hsn3 := HSN.out.iter hnoc (by omega) hf3
      have hR3 : R < w3.heap.size := hrg1.lt
      obtain ⟨hg1, hg2, hg3⟩ := HST.out.good ws hwL
      have HG := Lib.hid hg1
      have HS3 := Lib.hid hs3
      have HSN3 := Lib.hid hsn3
      have HRG3 := Lib.hid hrg1
      have HW := Lib.hid (Sl.same hwl hs3)
      have HFM := Lib.hid (HF.out ws hwL)
      have HWL := Lib.hid hwL
      have HLK := Lib.hid hlk
      obtain ⟨old, hold⟩ : ∃ z, z = (L.filter (fun x => !left (kl x) && decide (loT nn v x ≠ hiT nn v x))).length := ⟨_, rfl⟩
      have hol : old ≤ L.length := by rw [hold]; exact List.length_filter_le _ _
      have HOLD := Lib.hid hold
      rw [← hold]
      clear hkey hlk hval hat hhas hv1 hwl hf3 hnoc hs3 hsn3 hrg1 hgr hsz hg1 hwL hold HS HSN
      have hwr1 : IntKind.i64.wrap ((old : Int) + 1) = ((old + 1 : Nat) : Int) := by rw [IntWalk.i64_in _ (by omega)]; rfl
      go_upto_region 5 with fail
      refine wp_world fun w4 hw => ?_
      have hs4 : Same w3 w4 := by rw [hw]; exact (Frm.refl _ _).alloc _
      have hB9 : Blk w4 w3.heap.size 37 #[.int .i64 nn, .slice A ws.length C] := by rw [hw]; exact Blk.new _ _ _
      obtain ⟨X9, hX9⟩ : ∃ z, z = w3.heap.size := ⟨_, rfl⟩
      rw [← hX9] at hB9 ⊢
      have hR9 : R < X9 := by omega
      have c90 : w4.cell? ⟨X9, 0, none⟩ = some (.int .i64 nn) := hB9.cell 0
      have c91 : w4.cell? ⟨X9, 1, none⟩ = some (.slice A ws.length C) := hB9.cell 1
      have l9 := hB9.lt
      have HB9 := Lib.hid hB9
      have HS4 := Lib.hid hs4
      clear hw hX9 hB9 hs4 hen
      go_wp2_with (fail)
      refine (cof_ok nn v false A C ws w4 hv ⟨Sl.same HW.out HS4.out, HG.out⟩ HFM.out).mono ?_
      rintro e w5 ⟨A1, C1, rfl, hNT⟩
      obtain ⟨lo, hlo⟩ : ∃ z, z = tab nn (hfF v false ws) := ⟨_, rfl⟩
      have HLO := Lib.hid (show lo = loT nn v ws from hlo)
      have hgl := tab_good hn16 (hfF v false ws)
      rw [← hlo] at hNT hgl ⊢
      obtain ⟨hgl1, hgl2, hgl3⟩ := hgl
      have HGL := Lib.hid hgl1
      have HO1 := Lib.hid hNT.1
      have HFL := Lib.hid (show Fresh w.heap.size A1 from fun x hx => Nat.le_trans (HS3.out.trans HS4.out (fun _ _ h => h)).size (hNT.2.1 x hx))
      replace HS4 := Lib.hid (HS4.out.trans hNT.2.2 (fun _ _ h => h))
      replace HB9 := Lib.hid (HB9.out.frm hNT.2.2 id)
      clear hNT hlo hgl1 c90 c91 l9
      go_upto_region 6 with fail
      refine wp_world fun w6 hw => ?_
      have hs6 : Same w5 w6 := by rw [hw]; exact (Frm.refl _ _).alloc _
      have hB10 : Blk w6 w5.heap.size 37 #[.int .i64 nn, .slice A1 lo.length C1] := by rw [hw]; exact Blk.new _ _ _
      obtain ⟨X10, hX10⟩ : ∃ z, z = w5.heap.size := ⟨_, rfl⟩
      rw [← hX10] at hB10 ⊢
      have hR10 : R < X10 := by have := HB9.out.lt; omega
      replace HO1 := Lib.hid (Own.frm HO1.out hs6 (fun _ _ => id))
      replace HS4 := Lib.hid (HS4.out.trans hs6 (fun _ _ h => h))
      replace HB9 := Lib.hid (HB9.out.frm hs6 id)
      have HB10 := Lib.hid hB10
      have c90 : w6.cell? ⟨X9, 0, none⟩ = some (.int .i64 nn) := HB9.out.cell 0
      have c91 : w6.cell? ⟨X9, 1, none⟩ = some (.slice A ws.length C) := HB9.out.cell 1
      have l9 := HB9.out.lt
      clear hw hX10 hB10 hs6
      go_wp2_with (fail)
      refine (cof_ok nn v true A C ws w6 hv ⟨Sl.same HW.out HS4.out, HG.out⟩ HFM.out).mono ?_
      rintro e w7 ⟨A2, C2, rfl, hNT⟩
      obtain ⟨hi, hhi⟩ : ∃ z, z = tab nn (hfF v true ws) := ⟨_, rfl⟩
      have HHI := Lib.hid (show hi = hiT nn v ws from hhi)
      have hgh := tab_good hn16 (hfF v true ws)
      rw [← hhi] at hNT hgh ⊢
      obtain ⟨hgh1, hgh2, hgh3⟩ := hgh
      have HGH := Lib.hid hgh1
      have HO2 := Lib.hid hNT.1
      have HFH := Lib.hid (show Fresh w.heap.size A2 from fun x hx => Nat.le_trans (HS3.out.trans HS4.out (fun _ _ h => h)).size (hNT.2.1 x hx))
      replace HO1 := Lib.hid (Own.frm HO1.out hNT.2.2 (fun _ _ => id))
      replace HS4 := Lib.hid (HS4.out.trans hNT.2.2 (fun _ _ h => h))
      replace HB10 := Lib.hid (HB10.out.frm hNT.2.2 id)
      clear hNT hhi hgh1 c90 c91 l9 HB9
      go_upto_region 7 with fail
      refine wp_world fun w8 hw => ?_
      have hs8 : Same w7 w8 := by rw [hw]; exact (Frm.refl _ _).alloc _
      have hB12 : Blk w8 w7.heap.size 37 #[.int .i64 nn, .slice A2 hi.length C2] := by rw [hw]; exact Blk.new _ _ _
      obtain ⟨X12, hX12⟩ : ∃ z, z = w7.heap.size := ⟨_, rfl⟩
      rw [← hX12] at hB12 ⊢
      have hR12 : R < X12 := by have := HB10.out.lt; omega
      replace HO1 := Lib.hid (Own.frm HO1.out hs8 (fun _ _ => id))
      replace HO2 := Lib.hid (Own.frm HO2.out hs8 (fun _ _ => id))
      replace HS4 := Lib.hid (HS4.out.trans hs8 (fun _ _ h => h))
      replace HB10 := Lib.hid (HB10.out.frm hs8 id)
      have HB12 := Lib.hid hB12
      have ca0 : w8.cell? ⟨X10, 0, none⟩ = some (.int .i64 nn) := HB10.out.cell 0
      have ca1 : w8.cell? ⟨X10, 1, none⟩ = some (.slice A1 lo.length C1) := HB10.out.cell 1
      have la := HB10.out.lt
      have cb0 : w8.cell? ⟨X12, 0, none⟩ = some (.int .i64 nn) := hB12.cell 0
      have cb1 : w8.cell? ⟨X12, 1, none⟩ = some (.slice A2 hi.length C2) := hB12.cell 1
      have lb := hB12.lt
      clear hw hX12 hB12 hs8
      refine wp_phS (fun _ => False) [([0, 2], 1), ([], 3), ([4], 5)] (by kernel_rfl) (by kernel_rfl) ?_
      simp only [wpPh, pick, List.map_cons, List.map_nil, List.getD_cons_zero, List.getD_cons_succ]
      repeat (any_goals (first | go_big_quiet_step (fail) | quiet_step (fail)))
      refine wpQuiet_nil ?_
      obtain ⟨wd, hwd⟩ : ∃ z, z = w8.drew := ⟨_, rfl⟩
      have hsd : Same w8 wd := by rw [hwd]; exact (Frm.refl _ _).drew
      rw [← hwd]
      clear hwd ca0 ca1 la cb0 cb1 lb
      refine effStep_plain rfl fun K hK => ?_
      go_simp
      refine (key_any (nn : Int) A1 C1 lo wd ⟨Sl.same (HO1.out.sl ucell_len) hsd, HGL.out⟩ hgl2 hgl3).mono ?_
      rintro e wk ⟨rfl, hs⟩
      have hsk := hsd.trans hs (fun _ _ h => h)
      refine hK _ _ (Lat.mk_ hsk) ?_
      clear hK K hs hsd
      refine wpQuiet_nil ?_
      refine effStep_plain rfl fun K hK => ?_
      go_simp
      refine (key_any (nn : Int) A2 C2 hi wk ⟨Sl.same (HO2.out.sl ucell_len) hsk, HGH.out⟩ hgh2 hgh3).mono ?_
      rintro e w9 ⟨rfl, hs⟩
      have hs9 := hsk.trans hs (fun _ _ h => h)
      refine hK _ _ (Lat.mk_ hs9) ?_
      clear hK K hs hsk
      repeat (any_goals (first | go_big_quiet_step (fail) | quiet_step (fail)))
      refine wpQuiet_nil ?_
      replace HSN3 := Lib.hid (HSN3.out.same (HS4.out.trans hs9 (fun _ _ h => h)))
      replace HRG3 := Lib.hid (ranges_frm HRG3.out (HS4.out.trans hs9 (fun _ _ h => h)) id id)
      replace HS3 := Lib.hid (HS3.out.trans (HS4.out.trans hs9 (fun _ _ h => h)) (fun _ _ h => h))
      replace HO1 := Lib.hid (Own.frm HO1.out hs9 (fun _ _ => id))
      replace HO2 := Lib.hid (Own.frm HO2.out hs9 (fun _ _ => id))
      have hB10 := HB10.out.frm hs9 id
      have hB12 := HB12.out.frm hs9 id
      have ca0 : w9.cell? ⟨X10, 0, none⟩ = some (.int .i64 nn) := hB10.cell 0
      have ca1 : w9.cell? ⟨X10, 1, none⟩ = some (.slice A1 lo.length C1) := hB10.cell 1
      have la := hB10.lt
      have cb0 : w9.cell? ⟨X12, 0, none⟩ = some (.int .i64 nn) := hB12.cell 0
      have cb1 : w9.cell? ⟨X12, 1, none⟩ = some (.slice A2 hi.length C2) := hB12.cell 1
      have lb := hB12.lt
      obtain ⟨S, hS⟩ : ∃ S : Nat → Prop, (fun x => x = bn) = S := ⟨_, rfl⟩
      have hS10 : ¬ S X10 := by rw [← hS]; exact fun h => by omega
      have hS12 : ¬ S X12 := by rw [← hS]; exact fun h => by omega
      have HSS := Lib.hid hS
      clear hS hB10 hB12 HB10 HB12 hs9 HS4 HW
      by_cases heq : lo = hi
      · subst heq
        go_upto_region 10 with fail
        refine wp_phS S [([0, 1, 2, 3, 4, 5], 6), ([], 7)] (by kernel_rfl) (by kernel_rfl) ?_
        simp only [wpPh, pick, List.map_cons, List.map_nil, List.getD_cons_zero, List.getD_cons_succ]
        repeat (any_goals (first | go_big_quiet_step (fail) | quiet_step (fail)))
        refine wpQuiet_nil ?_
        obtain ⟨wd, hwd⟩ : ∃ z, z = w9.drew := ⟨_, rfl⟩
        have hsd : Same w9 wd := by rw [hwd]; exact (Frm.refl _ _).drew
        rw [← hwd]
        clear hwd ca0 ca1 la cb0 cb1 lb
        have hst0 := HSN3.out.same hsd
        refine effStep_plain rfl fun K hK => ?_
        refine Own.mapPut (.tmp 44) (.tmp 45) (.tmp 48) 59 rfl 9 37 KS Try.underlying59 tabR bn m D' rfl hst0.own (by simp [maxLen] <;> omega) (.string (kstr lo)) (.agg #[.int .i64 nn, .slice A1 lo.length C1]) (kl lo) rfl rfl (key_of hgl3) _ _ (tabR_of _ _ _ _) ?_
        intro wa ho hgr
        have hfa : Frm (fun x => x = bn) wd wa := (Frm.refl _ _).grown hgr (fun g hg => .inl (Option.some.inj hg).symm)
        have hst1 := hst0.put (Sl.same (HO1.out.sl ucell_len) hsd) HFL.out ⟨HGL.out, hgl2, hgl3⟩ ho hfa
        have hfs : Frm (fun x => x = bn) w9 wa := ((Frm.refl (fun x => x = bn) w9).trans hsd (fun _ _ h => h.elim)).trans hfa (fun _ _ h => h)
        refine hK _ _ (Lat.mk_ (by rw [← HSS.out]; exact hfs)) ?_
        clear hK K ho hgr
        refine wpQuiet_nil ?_
        refine wpList_plain rfl fun K hK => ?_
        have hwl2 := Sl.turnMap hst0.own hfa ucell_len (Sl.same (HO2.out.sl ucell_len) hsd)
        refine Own.mapPut (.tmp 46) (.tmp 47) (.tmp 49) 59 rfl 9 37 KS Try.underlying59 tabR bn (m + 1) _ rfl hst1.own (by simp [maxLen] <;> omega) (.string (kstr lo)) (.agg #[.int .i64 nn, .slice A2 lo.length C2]) (kl lo) rfl rfl (key_of hgh3) _ _ (tabR_of _ _ _ _) ?_
        intro wb ho hgr
        have hfb : Frm (fun x => x = bn) wa wb := (Frm.refl _ _).grown hgr (fun g hg => .inl (Option.some.inj hg).symm)
        have hst2 := hst1.put hwl2 HFH.out ⟨HGH.out, hgh2, hgh3⟩ ho hfb
        refine hK _ _ ?_
        clear hK K ho hgr
        have hfw : Frm (fun x => x = bn) w9 wb := hfs.trans hfb (fun i hi h => h)
        have HRG5 := Lib.hid (ranges_frm HRG3.out hfw (fun (h : b = bn) => by omega) (fun (h : R = bn) => by omega))
        have HS5 := Lib.hid (HS3.out.trans hfw (fun i hi (h : i = bn) => by omega))
        have HST5 := Lib.hid (hst2.iff (M' := fun y => ∃ x ∈ L, (left (kl x) && !(kl x).sameKey (kl ws)) = false ∧ (y = loT nn v x ∨ y = hiT nn v x)) (fun y => by
          have e1 := HLO.out
          have e2 := HHI.out
          constructor
          · rintro ((⟨x, h1, h2, h3⟩ | h) | h)
            · exact ⟨x, h1, (left_iff (HST.out.good x h1).1 HG.out).2 (.inl h2), h3⟩
            · exact ⟨ws, HWL.out, (left_iff HG.out HG.out).2 (.inr rfl), .inl (h.trans e1)⟩
            · exact ⟨ws, HWL.out, (left_iff HG.out HG.out).2 (.inr rfl), .inr (h.trans e2)⟩
          · rintro ⟨x, h1, h2, h3⟩
            rcases (left_iff (HST.out.good x h1).1 HG.out).1 h2 with h4 | rfl
            · exact .inl (.inl ⟨x, h1, h4, h3⟩)
            · rcases h3 with h3 | h3
              · exact .inl (.inr (h3.trans e1.symm))
              · exact .inr (h3.trans e2.symm)))
        have hcount : (L.filter (fun x => !(left (kl x) && !(kl x).sameKey (kl ws)) && decide (loT nn v x ≠ hiT nn v x))).length = old := by
          have h1 := count_one HND.out HWL.out (p := fun x => !left (kl x)) (p' := fun x => !(left (kl x) && !(kl x).sameKey (kl ws))) (q := fun x => decide (loT nn v x ≠ hiT nn v x)) (by simp [HLK.out]) (by simp [(left_iff (left := left) HG.out HG.out).2 (.inr rfl)]) (fun x hx hne => by
            have : (kl x).sameKey (kl ws) = false := sameKey_ne (fun h => hne (kl_inj (HST.out.good x hx).1 HG.out h))
            simp [this])
          rw [h1, ← HOLD.out, ← HLO.out, ← HHI.out]
          simp 
        have HCNT := Lib.hid hcount
        clear hcount hfa hfb hfw hfs hst0 hst1 hst2 hwl2 hsd
        go_wp2
        go_frame
        go_roundw
        case rel => exact ⟨fun z => left z && !z.sameKey (kl ws), cnt1, _, m + 1 + 1, by rw [HCNT.out] <;> rfl, HRG5.out, HST5.out, by omega, HS5.out⟩
        case measure =>
          rw [HRG5.out.left_eq, HRG.out.left_eq]
          exact hlt
      · have hne : ((kstr lo).toList == (kstr hi).toList) = false := by
          rw [beq_eq_false_iff_ne]
          exact fun h => heq (kstr_inj HGL.out HGH.out (toList_inj h))
        go_upto_region 10 with fail
        refine wp_phS S [([0, 1, 2, 3, 4, 5], 6), ([], 7)] (by kernel_rfl) (by kernel_rfl) ?_
        simp only [wpPh, pick, List.map_cons, List.map_nil, List.getD_cons_zero, List.getD_cons_succ]
        repeat (any_goals (first | go_big_quiet_step (fail) | quiet_step (fail)))
        refine wpQuiet_nil ?_
        obtain ⟨wd, hwd⟩ : ∃ z, z = w9.drew := ⟨_, rfl⟩
        have hsd : Same w9 wd := by rw [hwd]; exact (Frm.refl _ _).drew
        rw [← hwd]
        clear hwd ca0 ca1 la cb0 cb1 lb
        have hst0 := HSN3.out.same hsd
        refine effStep_plain rfl fun K hK => ?_
        refine Own.mapPut (.tmp 44) (.tmp 45) (.tmp 48) 59 rfl 9 37 KS Try.underlying59 tabR bn m D' rfl hst0.own (by simp [maxLen] <;> omega) (.string (kstr lo)) (.agg #[.int .i64 nn, .slice A1 lo.length C1]) (kl lo) rfl rfl (key_of hgl3) _ _ (tabR_of _ _ _ _) ?_
        intro wa ho hgr
        have hfa : Frm (fun x => x = bn) wd wa := (Frm.refl _ _).grown hgr (fun g hg => .inl (Option.some.inj hg).symm)
        have hst1 := hst0.put (Sl.same (HO1.out.sl ucell_len) hsd) HFL.out ⟨HGL.out, hgl2, hgl3⟩ ho hfa
        have hfs : Frm (fun x => x = bn) w9 wa := ((Frm.refl (fun x => x = bn) w9).trans hsd (fun _ _ h => h.elim)).trans hfa (fun _ _ h => h)
        refine hK _ _ (Lat.mk_ (by rw [← HSS.out]; exact hfs)) ?_
        clear hK K ho hgr
        refine wpQuiet_nil ?_
        refine wpList_plain rfl fun K hK => ?_
        have hwl2 := Sl.turnMap hst0.own hfa ucell_len (Sl.same (HO2.out.sl ucell_len) hsd)
        refine Own.mapPut (.tmp 46) (.tmp 47) (.tmp 49) 59 rfl 9 37 KS Try.underlying59 tabR bn (m + 1) _ rfl hst1.own (by simp [maxLen] <;> omega) (.string (kstr hi)) (.agg #[.int .i64 nn, .slice A2 hi.length C2]) (kl hi) rfl rfl (key_of hgh3) _ _ (tabR_of _ _ _ _) ?_
        intro wb ho hgr
        have hfb : Frm (fun x => x = bn) wa wb := (Frm.refl _ _).grown hgr (fun g hg => .inl (Option.some.inj hg).symm)
        have hst2 := hst1.put hwl2 HFH.out ⟨HGH.out, hgh2, hgh3⟩ ho hfb
        refine hK _ _ ?_
        clear hK K ho hgr
        have hfw : Frm (fun x => x = bn) w9 wb := hfs.trans hfb (fun i hi h => h)
        have HRG5 := Lib.hid (ranges_frm HRG3.out hfw (fun (h : b = bn) => by omega) (fun (h : R = bn) => by omega))
        have HS5 := Lib.hid (HS3.out.trans hfw (fun i hi (h : i = bn) => by omega))
        have HST5 := Lib.hid (hst2.iff (M' := fun y => ∃ x ∈ L, (left (kl x) && !(kl x).sameKey (kl ws)) = false ∧ (y = loT nn v x ∨ y = hiT nn v x)) (fun y => by
          have e1 := HLO.out
          have e2 := HHI.out
          constructor
          · rintro ((⟨x, h1, h2, h3⟩ | h) | h)
            · exact ⟨x, h1, (left_iff (HST.out.good x h1).1 HG.out).2 (.inl h2), h3⟩
            · exact ⟨ws, HWL.out, (left_iff HG.out HG.out).2 (.inr rfl), .inl (h.trans e1)⟩
            · exact ⟨ws, HWL.out, (left_iff HG.out HG.out).2 (.inr rfl), .inr (h.trans e2)⟩
          · rintro ⟨x, h1, h2, h3⟩
            rcases (left_iff (HST.out.good x h1).1 HG.out).1 h2 with h4 | rfl
            · exact .inl (.inl ⟨x, h1, h4, h3⟩)
            · rcases h3 with h3 | h3
              · exact .inl (.inr (h3.trans e1.symm))
              · exact .inr (h3.trans e2.symm)))
        have hcount : (L.filter (fun x => !(left (kl x) && !(kl x).sameKey (kl ws)) && decide (loT nn v x ≠ hiT nn v x))).length = old + 1 := by
          have h1 := count_one HND.out HWL.out (p := fun x => !left (kl x)) (p' := fun x => !(left (kl x) && !(kl x).sameKey (kl ws))) (q := fun x => decide (loT nn v x ≠ hiT nn v x)) (by simp [HLK.out]) (by simp [(left_iff (left := left) HG.out HG.out).2 (.inr rfl)]) (fun x hx hne => by
            have : (kl x).sameKey (kl ws) = false := sameKey_ne (fun h => hne (kl_inj (HST.out.good x hx).1 HG.out h))
            simp [this])
          rw [h1, ← HOLD.out, ← HLO.out, ← HHI.out]
          simp [heq]
        have HCNT := Lib.hid hcount
        clear hcount hfa hfb hfw hfs hst0 hst1 hst2 hwl2 hsd
        go_wp2
        go_frame
        go_roundw
        case rel => exact ⟨fun z => left z && !z.sameKey (kl ws), cnt1, _, m + 1 + 1, by rw [HCNT.out] <;> rfl, HRG5.out, HST5.out, by omega, HS5.out⟩
        case measure =>
          rw [HRG5.out.left_eq, HRG.out.left_eq]
          exact hlt
end Go.Proofs.Ytakepdkokjecoaa


/- Permutations: Check and both of the program; place, DocCheck and worse of the reference. -/
namespace Go.Proofs.Ytakepdkokjecoaa
open Go.RowKit Go.Tk

theorem info_int : (Try.prog.info? 3).map (fun i => (i.zero, i.size, i.bytes)) = some (some (.int .i64 0), 1, 8) := by kernel_rfl

/-- which numbers stand among the first k -/
def seenL (xs : List Int) (k n : Nat) : List Bool := (List.range n).map fun j : Nat => decide ((j : Int) ∈ xs.take k)
theorem seenL_len (xs : List Int) (k n : Nat) : (seenL xs k n).length = n := by simp [seenL]
theorem seenL_get (xs : List Int) (k : Nat) {n j : Nat} (h : j < n) : (seenL xs k n)[j]? = some (decide ((j : Int) ∈ xs.take k)) := by simp [seenL, h]
theorem seenL_zero (xs : List Int) (n : Nat) : seenL xs 0 n = List.replicate n false := by
  apply List.ext_getElem?
  intro j
  rcases Nat.lt_or_ge j n with h | h
  · rw [seenL_get xs 0 h]; simp [h]
  · rw [List.getElem?_eq_none (by rw [seenL_len]; exact h), List.getElem?_eq_none (by simpa using h)]
theorem take_snoc {α : Type} {xs : List α} {k : Nat} {x : α} (h : xs[k]? = some x) : xs.take (k + 1) = xs.take k ++ [x] := by
  have hl := lt_of_get h
  rw [List.getElem?_eq_getElem hl] at h
  injection h with h
  rw [List.take_succ_eq_append_getElem hl, h]
theorem seenL_set {xs : List Int} {k n : Nat} {x : Nat} (h : xs[k]? = some (x : Int)) (hx : x < n) : (seenL xs k n).set x true = seenL xs (k + 1) n := by
  apply List.ext_getElem?
  intro j
  rcases Nat.lt_or_ge j n with hj | hj
  · rw [seenL_get xs (k + 1) hj, List.getElem?_set, seenL_len, seenL_get xs k hj, take_snoc h]
    split
    · rename_i he; subst he; simp
    · rename_i hne
      congr 1
      have : ¬ ((j : Int) = (x : Int)) := by omega
      simp [this]
  · rw [List.getElem?_eq_none (by simp [seenL_len, hj]), List.getElem?_eq_none (by rw [seenL_len]; exact hj)]
/-- the first k things are in order -/
def Good (xs : List Int) (k : Nat) : Prop := (∀ x, x ∈ xs.take k → 0 ≤ x ∧ x < xs.length) ∧ (xs.take k).Nodup
theorem Good.next {xs : List Int} {k : Nat} {x : Int} (h : Good xs k) (hx : xs[k]? = some x) (h0 : 0 ≤ x) (h1 : x < xs.length) (hn : x ∉ xs.take k) : Good xs (k + 1) := by
  unfold Good
  rw [take_snoc hx]
  refine ⟨fun y hy => ?_, ?_⟩
  · rcases List.mem_append.1 hy with hy | hy
    · exact h.1 y hy
    · simp at hy; subst hy; exact ⟨h0, h1⟩
  · rw [List.nodup_append]
    exact ⟨h.2, by simp, fun a ha b hb => by simp at hb; subst hb; rintro rfl; exact hn ha⟩
theorem not_perm_range {xs : List Int} {k : Nat} {x : Int} (hx : xs[k]? = some x) (h : x < 0 ∨ (xs.length : Int) ≤ x) : chk xs = 4 := by
  unfold chk
  rw [if_neg]
  rintro ⟨h1, _⟩
  have := h1 x (List.mem_of_getElem? hx)
  omega
theorem not_perm_dup {xs : List Int} {k : Nat} {x : Int} (hx : xs[k]? = some x) (h : x ∈ xs.take k) : chk xs = 4 := by
  unfold chk
  rw [if_neg]
  rintro ⟨_, h2⟩
  have h3 : (xs.take (k + 1)).Nodup := h2.sublist (List.take_sublist _ _)
  rw [take_snoc hx, List.nodup_append] at h3
  exact h3.2.2 x h x (by simp) rfl
theorem good_all {xs : List Int} (h : Good xs xs.length) : IsPerm xs := by
  unfold Good at h
  rw [List.take_length] at h
  exact h

set_option maxHeartbeats 1000000 in
theorem check_any (A : Option Addr) (n C : Nat) (xs : List Int) (w : World) (h : IL w A n xs) (hr : n * 8 ≤ 140737488351232) :
    Calls Try.prog 26 #[.slice A n C] w fun e w' => e = .returned (.int .i64 (chk xs)) ∧ Same w w' := by
  obtain rfl := h.len
  have hmk := fun w => run_make_n (P := Try.prog) Try.underlying53 info_bool .i64 .i64 xs.length (show 1 * xs.length ≤ 281474976710656 by omega) (show xs.length ≤ 9223372036854775807 by omega) w
  have hs1 : ∀ cs, Same w (w.alloc (.cells cs 4)) := fun cs => (Frm.refl _ _).alloc _
  have hO := Own.ofMade (m := 1) w 4 (fun b : Bool => [.bool b]) (fun _ => rfl) (by decide) false xs.length (show xs.length ≤ 9223372036854775807 by omega) rfl
  rw [← seenL_zero xs] at hO
  have H := Lib.hid h
  have HO := Lib.hid hO
  clear h hO
  go_enter Try.func26, Try.ntmps26
  go_wp2
  go_loopw [11] (fun i wr => ∃ k : Nat, k ≤ xs.length ∧ i = .int .i64 k ∧ Good xs k ∧ Same w wr ∧ Row1 wr 4 (fun b : Bool => .bool b) (some ⟨w.heap.size, 0, none⟩) xs.length xs.length (seenL xs k xs.length)) (fun i _ => xs.length - (intOf i).toNat)
  case atStart => exact ⟨0, by omega, rfl, ⟨by simp, by simp⟩, hs1 _, by simpa using HO.out⟩
  case round =>
    obtain ⟨k, hk, rfl, hg, hs, ho⟩ := hrel
    clear hmk hs1 HO
    by_cases hlt : k < xs.length
    · obtain ⟨x, hx⟩ : ∃ x, xs[k]? = some x := ⟨_, List.getElem?_eq_getElem hlt⟩
      obtain ⟨b, off, rfl, hb, hc⟩ := (H.out.same hs).at1 hx
      have hi0 : (0 : Int) ≤ k := by omega
      have hi1 : (k : Int) < xs.length := by omega
      have HG := Lib.hid hg
      have HX := Lib.hid hx
      have HS := Lib.hid hs
      have HR := Lib.hid ho
      clear hg hx hs ho
      by_cases h0 : x < 0
      · go_wp2
        go_ret
        exact ⟨ret_int (not_perm_range HX.out (.inl h0)).symm, HS.out⟩
      · by_cases h1 : x ≥ xs.length
        · go_wp2
          go_ret
          exact ⟨ret_int (not_perm_range HX.out (.inr h1)).symm, HS.out⟩
        · obtain ⟨y, rfl⟩ := Int.eq_ofNat_of_zero_le (show 0 ≤ x by omega)
          have hyl : y < xs.length := by omega
          have hg := seenL_get xs k hyl
          obtain ⟨sb, hsb, hsl, hsc⟩ := HR.out.at1 hg
          injection hsb with hsb
          injection hsb with hsb
          subst hsb
          have hfr := Own.free HR.out y
          clear hg
          by_cases hd : (y : Int) ∈ xs.take k
          · have hd' : decide ((y : Int) ∈ xs.take k) = true := by simpa using hd
            rw [hd'] at hsc
            have HD := Lib.hid hd
            clear hd hd'
            go_wp2
            go_ret
            exact ⟨ret_int (not_perm_dup HX.out HD.out).symm, HS.out⟩
          · have hd' : decide ((y : Int) ∈ xs.take k) = false := by simpa using hd
            rw [hd'] at hsc
            have HD := Lib.hid hd
            clear hd hd'
            have hst := Own.put1 HR.out (i := y) (by rw [seenL_len]; exact hyl) true
            rw [seenL_set HX.out hyl] at hst
            have HST := Lib.hid hst
            clear hst
            go_wp2
            go_roundw
            case rel => exact ⟨k + 1, by omega, by go_num, HG.out.next HX.out (by omega) (by omega) HD.out, HS.out.setNew _ _ (Nat.le_refl _), HST.out⟩
            case measure => simp [intOf] <;> omega
    · obtain rfl : k = xs.length := by omega
      have HG := Lib.hid (good_all hg)
      clear hg ho
      by_cases h64 : 64 < xs.length
      · have h64' : (xs.length : Int) > 64 := by omega
        go_wp2
        go_ret
        exact ⟨ret_int (by unfold chk; rw [if_pos HG.out, if_pos h64]), hs⟩
      · have h64' : ¬ (xs.length : Int) > 64 := by omega
        go_wp2
        go_ret
        exact ⟨ret_int (by unfold chk; rw [if_pos HG.out, if_neg h64]), hs⟩
end Go.Proofs.Ytakepdkokjecoaa


/- Permutations: lists that are answered; place, slices.Index, DocCheck, worse, slices.Clone. -/
namespace Go.Tk
open Go.RowKit
theorem Frm.same_app {w0 w wa wb : World} {A : Option Addr} {N C : Nat} (h : Frm (fun _ => False) w0 w) (ha : Frm (fun _ => False) w wa) (hg : wa.grownBy wb (Value.slice A N C).ownBlock) (hA : Fresh w0.heap.size A) : Frm (fun _ => False) w0 wb :=
  (h.trans ha (fun _ _ h => h)).grown hg (fun g hg => .inr (hA g (ownBlock_row.1 hg)))
theorem Same.app {w0 w wa wb : World} {A : Option Addr} {N C : Nat} (h : Same w0 w) (ha : Same w wa) (hg : wa.grownBy wb (Value.slice A N C).ownBlock) (hA : Fresh w0.heap.size A) : Same w0 wb := Frm.same_app h ha hg hA
theorem fresh_app {w0 w wa : World} {A : Option Addr} {N C g : Nat} (h : Same w0 w) (ha : Same w wa) (hA : Fresh w0.heap.size A) (hat : (Value.slice A N C).ownBlock = some g ∨ g = wa.heap.size) : Fresh w0.heap.size (some ⟨g, 0, none⟩) := by
  refine fresh_some ?_
  have := h.size
  have := ha.size
  rcases hat with h | h
  · exact hA g (ownBlock_row.1 h)
  · omega
theorem IL.src {w : World} {A : Option Addr} {n : Nat} {xs : List Int} (h : IL w A n xs) (hne : xs ≠ []) : ∃ ad, A = some ad ∧ ∀ j u, (xs.flatMap icell)[j]? = some u → w.cell? (ad.add j) = some u := by
  have h0 : 0 < xs.length := List.length_pos_iff.2 hne
  obtain ⟨b, off, rfl, _, _⟩ := h.at1 (List.getElem?_eq_getElem h0)
  refine ⟨_, rfl, fun j u hj => ?_⟩
  have hfl : ∀ l : List Int, l.flatMap icell = l.map (fun x => Value.int .i64 x) := by
    intro l
    induction l with
    | nil => rfl
    | cons x l ih => rw [List.flatMap_cons, ih]; rfl
  rw [hfl, List.getElem?_map] at hj
  cases hx : xs[j]? with
  | none => rw [hx] at hj; cases hj
  | some x =>
    rw [hx] at hj
    simp at hj
    subst hj
    obtain ⟨b', off', h1, _, h3⟩ := h.at1 hx
    injection h1 with h1
    injection h1 with h1 h2
    subst h1 h2
    have : (⟨b, off, none⟩ : Addr).add j = ⟨b, off + j, none⟩ := by unfold Addr.add; split <;> simp_all
    rw [this]
    exact h3
theorem IL.nil {w : World} {n : Nat} {xs : List Int} (h : IL w none n xs) : xs = [] := by
  cases xs with
  | nil => rfl
  | cons x xs =>
    obtain ⟨b, off, h1, _⟩ := h.at1 (i := 0) (x := x) rfl
    cases h1
end Go.Tk
namespace Go.Proofs.Ytakepdkokjecoaa
open Go.RowKit Go.Tk

/-- a list of the call's own -/
def NewL (w : World) (ys : List Int) (A : Option Addr) (C : Nat) (w' : World) : Prop := OwnI w' 3 A ys.length C ys ∧ Fresh w.heap.size A ∧ Same w w'
def RetL (w : World) (ys : List Int) (e : Ending) (w' : World) : Prop := ∃ A C, e = .returned (.slice A ys.length C) ∧ NewL w ys A C w'
def RetE (w : World) (ys : List Int) (err : Int) (e : Ending) (w' : World) : Prop := ∃ A C, e = .returned (.tuple #[.slice A ys.length C, .int .i64 err]) ∧ NewL w ys A C w'
theorem NewL.nil (w : World) : NewL w [] none 0 w := ⟨Own.nil _ _ _ _, fresh_none _, Frm.refl _ _⟩
theorem NewL.nil' {w w' : World} (h : Same w w') : NewL w [] none 0 w' := ⟨Own.nil _ _ _ _, fresh_none _, h⟩

/-- 0 .. k-1, then noughts -/
def idL (n k : Nat) : List Int := (List.range n).map fun j : Nat => if j < k then (j : Int) else 0
theorem idL_len (n k : Nat) : (idL n k).length = n := by simp [idL]
theorem idL_zero (n : Nat) : idL n 0 = List.replicate n 0 := by
  apply List.ext_getElem?
  intro j
  rcases Nat.lt_or_ge j n with h | h
  · simp [idL, h]
  · rw [List.getElem?_eq_none (by rw [idL_len]; exact h), List.getElem?_eq_none (by simpa using h)]
theorem idL_full (n : Nat) : idL n n = rng n := by
  apply List.ext_getElem?
  intro j
  rcases Nat.lt_or_ge j n with h | h
  · rw [rng_get h]; simp [idL, h]
  · rw [List.getElem?_eq_none (by rw [idL_len]; exact h), List.getElem?_eq_none (by rw [rng_len]; exact h)]
theorem idL_set {n k : Nat} (_h : k < n) : (idL n k).set k (k : Int) = idL n (k + 1) := by
  apply List.ext_getElem?
  intro j
  rcases Nat.lt_or_ge j n with hj | hj
  · rw [List.getElem?_set, idL_len]
    simp only [idL, List.getElem?_map, List.getElem?_range hj, Option.map_some]
    split
    · rename_i he; subst he; simp
    · rename_i he
      congr 1
      by_cases h : j < k
      · rw [if_pos h, if_pos (by omega)]
      · rw [if_neg h, if_neg (by omega)]
  · rw [List.getElem?_eq_none (by simp [idL_len, hj]), List.getElem?_eq_none (by rw [idL_len]; exact hj)]

end Go.Proofs.Ytakepdkokjecoaa
