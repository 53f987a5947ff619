/- Contracts and plain laws, put together in one file. No condition. -/
import Derived.Test.YtlggmoghgoeiiaaJ1
import Derived.Test.YtlggmoghgoeiiaaProg
import Derived.Laws.BitsAllLaws
import Derived.BigRegion
import Derived.Shelf.Abstract


/- Truth tables: words, full, count, Form of the program. -/
namespace Go.Proofs.Ytlggmoghgoeiiaa
open Go.RowKit Go.Tk

theorem pow_int (n : Nat) : (2 : Int) ^ n = ((2 ^ n : Nat) : Int) := by simp
theorem words_any (n : Nat) (w : World) (h : n ≤ 16) : Calls Try.prog 59 #[.int .i64 n] w fun e w' => e = .returned (.int .i64 (nw n : Nat)) ∧ w = w' := by
  have hp := pow_le16 h
  have hs := nw_shift h
  have hw : wrap64 ((2 : Int) ^ n) = ((2 ^ n : Nat) : Int) := by
    rw [pow_int]
    generalize 2 ^ n = p at hp
    exact IntWalk.wrap64_in _ (by omega)
  have hf : max 1 (wrap64 ((2 : Int) ^ n) / 64) = ((nw n : Nat) : Int) := by
    rw [hw, ← hs]
    generalize 2 ^ n = p at hp
    omega
  have HF := Lib.hid hf
  clear hs hw hf
  go_enter Try.func59, Try.ntmps59
  go_wp2
  go_ret
  exact ⟨by rw [← HF.out]; rfl, rfl⟩
theorem full_any (n : Nat) (w : World) (h : n ≤ 16) : Calls Try.prog 60 #[.int .i64 n] w fun e w' => e = .returned (.int .u64 (fullN n : Nat)) ∧ w = w' := by
  by_cases h6 : 6 ≤ n
  · have hf : fullN n = 18446744073709551615 := by unfold fullN; rw [if_pos h6]
    rw [hf]
    have h6' : (n : Int) ≥ 6 := by omega
    clear hf
    go_enter Try.func60, Try.ntmps60
    go_wp2
    go_ret
    exact ⟨rfl, rfl⟩
  · obtain rfl | rfl | rfl | rfl | rfl | rfl : n = 0 ∨ n = 1 ∨ n = 2 ∨ n = 3 ∨ n = 4 ∨ n = 5 := by omega
    all_goals
      clear h6 h
      go_enter Try.func60, Try.ntmps60
      go_wp2
      go_ret
      exact ⟨ret_int (by decide), rfl⟩
/-- the error of a count of variables -/
def cntE (n : Int) : Int := if n < 0 then 1 else if 16 < n then 6 else 0
theorem count_any (n : Int) (w : World) : Calls Try.prog 62 #[.int .i64 n] w fun e w' => e = .returned (.int .i64 (cntE n)) ∧ w = w' := by
  by_cases h0 : n < 0
  · have hf : cntE n = 1 := by unfold cntE; rw [if_pos h0]
    rw [hf]
    clear hf
    go_enter Try.func62, Try.ntmps62
    go_wp2
    go_ret
    exact ⟨rfl, rfl⟩
  · by_cases h1 : n > 16
    · have hf : cntE n = 6 := by unfold cntE; rw [if_neg h0, if_pos (by omega)]
      rw [hf]
      clear hf
      go_enter Try.func62, Try.ntmps62
      go_wp2
      go_ret
      exact ⟨rfl, rfl⟩
    · have hf : cntE n = 0 := by unfold cntE; rw [if_neg h0, if_neg (by omega)]
      rw [hf]
      clear hf
      go_enter Try.func62, Try.ntmps62
      go_wp2
      go_ret
      exact ⟨rfl, rfl⟩
/-- a slice of words -/
def ucell (x : Nat) : List Value := [.int .u64 (x : Int)]
theorem ucell_len (x : Nat) : (ucell x).length = 1 := rfl
abbrev WL (w : World) (A : Option Addr) (n : Nat) (ws : List Nat) : Prop := Sl w 1 ucell A n ws
abbrev OwnW (w : World) (A : Option Addr) (n C : Nat) (ws : List Nat) : Prop := Own w 38 1 ucell A n C ws
theorem WL.at1 {w : World} {A : Option Addr} {n : Nat} {ws : List Nat} (h : WL w A n ws) {i : Nat} {x : Nat} (hi : ws[i]? = some x) : ∃ b off, A = some ⟨b, off, none⟩ ∧ b < w.heap.size ∧ w.cell? ⟨b, off + i, none⟩ = some (.int .u64 x) := by
  obtain ⟨b, off, h1, h2, h3⟩ := h.get i x hi
  refine ⟨b, off, h1, h2, ?_⟩
  have := h3 0 (by omega)
  simpa [ucell] using this
def Small (ws : List Nat) : Prop := ∀ x ∈ ws, x < 18446744073709551616
theorem Small.at1 {ws : List Nat} (h : Small ws) {i x : Nat} (hi : ws[i]? = some x) : x < 18446744073709551616 := h x (List.mem_of_getElem? hi)
/-- is it in form? -/
def frm (N : Int) (ws : List Nat) : Bool := decide (0 ≤ N ∧ N ≤ 16 ∧ ws.length = nw N.toNat) && (decide (6 ≤ N) || decide (ws.getD 0 0 < 2 ^ 2 ^ N.toNat))
theorem frm_nat {n : Nat} {ws : List Nat} : frm n ws = true ↔ FormN n ws := by
  unfold frm
  simp only [Bool.and_eq_true, Bool.or_eq_true, decide_eq_true_eq, Int.toNat_natCast]
  constructor
  · rintro ⟨⟨_, h1, h2⟩, h3⟩
    exact ⟨by omega, h2, fun h => h3.elim (fun h4 => by omega) id⟩
  · intro h
    refine ⟨⟨by omega, by have := h.n16; omega, h.len⟩, ?_⟩
    by_cases h6 : n < 6
    · exact .inr (h.top h6)
    · exact .inl (by omega)
theorem frm_true {N : Int} {ws : List Nat} (h : frm N ws = true) : ∃ n : Nat, N = n ∧ FormN n ws := by
  have h0 : 0 ≤ N := by
    unfold frm at h
    simp at h
    exact h.1.1
  obtain ⟨n, rfl⟩ := Int.eq_ofNat_of_zero_le h0
  exact ⟨n, rfl, frm_nat.1 h⟩
theorem frm_false {N : Int} {ws : List Nat} (h : N < 0 ∨ 16 < N ∨ ws.length ≠ nw N.toNat) : frm N ws = false := by
  unfold frm
  rcases h with h | h | h
  · simp; omega
  · simp; omega
  · simp [h]
/-- no bit too many in the last word -/
theorem andNot_top {a k : Nat} (ha : a < 18446744073709551616) (hk : k ≤ 64) : (a &&& (18446744073709551615 - (2 ^ k - 1)) = 0) ↔ a < 2 ^ k := by
  have h2 : 18446744073709551615 - (2 ^ k - 1) = 2 ^ k * (2 ^ (64 - k) - 1) := by
    have h3 : 2 ^ k * 2 ^ (64 - k) = 18446744073709551616 := by rw [← Nat.pow_add, show k + (64 - k) = 64 by omega]
    have h4 : 0 < 2 ^ k := Nat.pow_pos (by omega)
    rw [Nat.mul_sub, h3]
    omega
  rw [h2]
  constructor
  · intro h
    refine Nat.lt_pow_two_of_testBit _ fun j hj => ?_
    by_cases hj64 : j < 64
    · have h5 := congrArg (fun x => x.testBit j) h
      simp only [Nat.testBit_and, Nat.testBit_two_pow_mul, Nat.testBit_two_pow_sub_one, Nat.zero_testBit] at h5
      simpa [show k ≤ j from hj, show j - k < 64 - k by omega] using h5
    · exact Nat.testBit_lt_two_pow (Nat.lt_of_lt_of_le ha (Nat.pow_le_pow_right (show 0 < 2 by omega) (show 64 ≤ j by omega)))
  · intro h
    apply Nat.eq_of_testBit_eq
    intro j
    simp only [Nat.testBit_and, Nat.testBit_two_pow_mul, Nat.zero_testBit]
    by_cases hj : k ≤ j
    · have : a.testBit j = false := Nat.testBit_lt_two_pow (Nat.lt_of_lt_of_le h (Nat.pow_le_pow_right (by omega) hj))
      simp [this]
    · simp [hj]
theorem last_ok {n : Nat} {ws : List Nat} (hn : n ≤ 16) (hl : ws.length = nw n) {x : Nat} (hx : ws[nw n - 1]? = some x) (hb : x < 18446744073709551616) : decide (x &&& (18446744073709551615 - fullN n) = 0) = frm n ws := by
  by_cases h6 : 6 ≤ n
  · have h1 : frm n ws = true := frm_nat.2 ⟨hn, hl, fun h => by omega⟩
    rw [h1]
    unfold fullN
    rw [if_pos h6]
    simp
  · have h0 : nw n = 1 := nw_small (by omega)
    rw [h0] at hx
    have hk : 2 ^ n ≤ 32 := by
      have : ∀ n, n < 6 → 2 ^ n ≤ 32 := by decide
      exact this n (by omega)
    have h2 := andNot_top hb (show 2 ^ n ≤ 64 by omega)
    have h3 : fullN n = 2 ^ 2 ^ n - 1 := by unfold fullN; rw [if_neg h6]
    rw [h3]
    have hg : ws.getD 0 0 = x := by rw [List.getD_eq_getElem?_getD, show ws[0]? = some x from hx]; rfl
    have h4 : frm n ws = decide (x < 2 ^ 2 ^ n) := by
      unfold frm
      rw [hg, Int.toNat_natCast]
      have e1 : decide ((0 : Int) ≤ n ∧ (n : Int) ≤ 16 ∧ ws.length = nw n) = true := by simp [hl]; omega
      have e2 : decide ((6 : Int) ≤ n) = false := by simp; omega
      rw [e1, e2]
      simp
    rw [h4, decide_eq_decide]
    exact h2

theorem beq0 (z : Nat) : (((z : Nat) : Int) == 0) = decide (z = 0) := by rw [Bool.eq_iff_iff]; simp
set_option maxHeartbeats 1000000 in
theorem Form_any (N : Int) (A : Option Addr) (m C : Nat) (ws : List Nat) (w : World) (h : WL w A m ws) (hb : Small ws) :
    Calls Try.prog 23 #[.agg #[.int .i64 N, .slice A m C]] w fun e w' => e = .returned (.bool (frm N ws)) ∧ Same w w' := by
  obtain rfl := h.len
  have H := Lib.hid h
  clear h
  obtain ⟨r, hr⟩ : ∃ r, frm N ws = r := ⟨_, rfl⟩
  rw [hr]
  by_cases h0 : N < 0
  · have hf : r = false := by rw [← hr]; exact frm_false (.inl h0)
    subst hf
    clear hr
    go_enter Try.func23, Try.ntmps23
    go_upto_region 1 with fail
    refine wp_quiet (by kernel_rfl) (by kernel_rfl) ?_
    repeat (any_goals (first | go_big_quiet_step (fail) | quiet_step (fail)))
    refine wpQuiet_nil ?_
    rintro _ ⟨q, rfl⟩
    go_wp2
    go_ret
    exact ⟨rfl, ((Frm.refl _ _).alloc _).trans (more_same _ q) (fun _ _ h => h)⟩
  by_cases h1 : N > 16
  · have hf : r = false := by rw [← hr]; exact frm_false (.inr (.inl (by omega)))
    subst hf
    clear hr
    go_enter Try.func23, Try.ntmps23
    go_upto_region 1 with fail
    refine wp_quiet (by kernel_rfl) (by kernel_rfl) ?_
    repeat (any_goals (first | go_big_quiet_step (fail) | quiet_step (fail)))
    refine wpQuiet_nil ?_
    rintro _ ⟨q, rfl⟩
    go_wp2
    go_ret
    exact ⟨rfl, ((Frm.refl _ _).alloc _).trans (more_same _ q) (fun _ _ h => h)⟩
  obtain ⟨n, rfl⟩ : ∃ n : Nat, N = n := ⟨N.toNat, by omega⟩
  have hN : n ≤ 16 := by omega
  by_cases hl : ws.length = nw n
  · have hnp := nw_pos n
    have hnl := nw_le hN
    obtain ⟨k, hk⟩ : ∃ k, nw n = k := ⟨_, rfl⟩
    have hWd := fun w => words_any n w hN
    rw [hk] at hl hnp hnl hWd
    obtain ⟨x, hx⟩ : ∃ x, ws[k - 1]? = some x := ⟨_, List.getElem?_eq_getElem (by omega)⟩
    have hxb := hb.at1 hx
    have hlast : decide (x &&& (18446744073709551615 - fullN n) = 0) = r := by
      rw [← hr]
      exact last_ok hN (by rw [hl, hk]) (by rw [hk]; exact hx) hxb
    have hfl := fullN_lt n
    have hFu := fun w => full_any n w hN
    obtain ⟨fu, hfu⟩ : ∃ fu, fullN n = fu := ⟨_, rfl⟩
    rw [hfu] at hlast hfl hFu
    obtain ⟨b, off, rfl, hbl, hc⟩ := H.out.at1 hx
    have hand := u64_andNot_nat x fu hxb hfl
    have hidx : (0 : Int) ≤ (k : Int) - 1 := by omega
    have hidx2 : (k : Int) - 1 < k := by omega
    have HWD := Lib.hid hWd
    have HFU := Lib.hid hFu
    have HLAST := Lib.hid hlast
    have HH := Lib.hid hl
    clear hr hk hx hWd hFu hfu hlast
    rw [hl]
    clear hl
    go_enter Try.func23, Try.ntmps23
    go_upto_region 1 with fail
    refine wp_quiet (by kernel_rfl) (by kernel_rfl) ?_
    repeat (any_goals (first | go_big_quiet_step ((go_at_call 59; exact quiet_call ((HWD.out _).mono fun e w' h => ⟨h.1, h.2 ▸ Frm.refl _ _⟩))) | quiet_step ((go_at_call 59; exact quiet_call ((HWD.out _).mono fun e w' h => ⟨h.1, h.2 ▸ Frm.refl _ _⟩)))))
    refine wpQuiet_nil ?_
    rintro wz ⟨q, hq⟩
    have hsz : Same w wz := by rw [hq]; exact ((Frm.refl _ _).alloc _).trans (more_same _ q) (fun _ _ h => h)
    have hB := (Blk.new w 24 #[.int .i64 n, .slice (some ⟨b, off, none⟩) k C]).frm (more_same _ q) id
    rw [← hq] at hB
    have hc0 : wz.cell? ⟨w.heap.size, 0, none⟩ = some (.int .i64 n) := hB.cell 0
    have hc1 : wz.cell? ⟨w.heap.size, 1, none⟩ = some (.slice (some ⟨b, off, none⟩) k C) := hB.cell 1
    have hcl := hB.lt
    have hcz := (hsz.cell (p := ⟨b, off + (k - 1), none⟩) hbl id).trans hc
    have hbz : b < wz.heap.size := by have := hsz.size; omega
    have HSZ := Lib.hid hsz
    clear hq hc hbl hB hsz
    go_upto_region 3 with fail
    refine wp_quiet (by kernel_rfl) (by kernel_rfl) ?_
    repeat (any_goals (first | go_big_quiet_step ((go_at_call 60; exact quiet_call ((HFU.out _).mono fun e w' h => ⟨h.1, h.2 ▸ Frm.refl _ _⟩))) | quiet_step ((go_at_call 60; exact quiet_call ((HFU.out _).mono fun e w' h => ⟨h.1, h.2 ▸ Frm.refl _ _⟩)))))
    refine wpQuiet_nil ?_
    rintro _ ⟨q2, rfl⟩
    go_wp2
    go_ret
    exact ⟨ret_bool (by rw [← HLAST.out]; exact beq0 _), HSZ.out.trans (more_same _ q2) (fun _ _ h => h)⟩
  · have hf : r = false := by rw [← hr]; exact frm_false (.inr (.inr hl))
    subst hf
    have hl' : ((ws.length : Int) != ((nw n : Nat) : Int)) = true := by simp; omega
    clear hr
    go_enter Try.func23, Try.ntmps23
    go_upto_region 1 with fail
    refine wp_quiet (by kernel_rfl) (by kernel_rfl) ?_
    repeat (any_goals (first | go_big_quiet_step ((go_at_call 59; exact quiet_call ((words_any _ _ hN).mono fun e w' h => ⟨h.1, h.2 ▸ Frm.refl _ _⟩))) | quiet_step ((go_at_call 59; exact quiet_call ((words_any _ _ hN).mono fun e w' h => ⟨h.1, h.2 ▸ Frm.refl _ _⟩)))))
    refine wpQuiet_nil ?_
    rintro _ ⟨q, rfl⟩
    go_wp2
    go_ret
    exact ⟨rfl, ((Frm.refl _ _).alloc _).trans (more_same _ q) (fun _ _ h => h)⟩
end Go.Proofs.Ytlggmoghgoeiiaa


/- Truth tables: form of the program (a list of tables). -/
namespace Go.Proofs.Ytlggmoghgoeiiaa
open Go.RowKit Go.Tk

/-- a table as it is handed about -/
structure Tb where
  N : Int
  A : Option Addr
  C : Nat
  ws : List Nat
def Tb.val (t : Tb) : Value := .agg #[.int .i64 t.N, .slice t.A t.ws.length t.C]
def Tb.frm (t : Tb) : Bool := Proofs.Ytlggmoghgoeiiaa.frm t.N t.ws
/-- its words are to be read -/
structure TbOk (w : World) (t : Tb) : Prop where
  wl : WL w t.A t.ws.length t.ws
  small : Small t.ws
theorem TbOk.same {w w' : World} {t : Tb} (h : TbOk w t) (hs : Same w w') : TbOk w' t := ⟨Sl.same h.wl hs, h.small⟩
theorem TbOk.form {w : World} {t : Tb} (h : TbOk w t) {w' : World} (hs : Same w w') : Calls Try.prog 23 #[t.val] w' fun e w'' => e = .returned (.bool t.frm) ∧ Same w' w'' :=
  Form_any t.N t.A _ t.C t.ws w' (Sl.same h.wl hs) h.small
/-- tables in a row -/
def Tbs (w : World) (g : Nat) (ts : List Tb) : Prop := ∀ i t, ts[i]? = some t → g < w.heap.size ∧ w.cell? ⟨g, i * 2, none⟩ = some (.int .i64 t.N) ∧ w.cell? ⟨g, i * 2 + 1, none⟩ = some (.slice t.A t.ws.length t.C)
theorem Tbs.same {w w' : World} {g : Nat} {ts : List Tb} (h : Tbs w g ts) (hs : Same w w') : Tbs w' g ts := fun i t hi => by
  obtain ⟨h1, h2, h3⟩ := h i t hi
  exact ⟨Nat.lt_of_lt_of_le h1 hs.size, (hs.cell (p := ⟨g, i * 2, none⟩) h1 id).trans h2, (hs.cell (p := ⟨g, i * 2 + 1, none⟩) h1 id).trans h3⟩
/-- all in form and of one N -/
def fm (ts : List Tb) : Bool := ts.all fun t => t.frm && (t.N == (ts.getD 0 ⟨0, none, 0, []⟩).N)

set_option maxHeartbeats 2000000 in
theorem form_any (g n C : Nat) (ts : List Tb) (w : World) (hn : n = ts.length) (hn1 : n ≤ 1000) (h : Tbs w g ts) (hok : ∀ t ∈ ts, TbOk w t) :
    Calls Try.prog 57 #[.slice (some ⟨g, 0, none⟩) n C] w fun e w' => e = .returned (.bool (fm ts)) ∧ Same w w' := by
  have H := Lib.hid h
  have HOK := Lib.hid hok
  obtain ⟨r, hr⟩ : ∃ r, fm ts = r := ⟨_, rfl⟩
  rw [hr]
  have HR := Lib.hid hr
  have HN := Lib.hid hn
  clear h hok hr hn
  go_enter Try.func57, Try.ntmps57
  go_wp2
  go_loopw [7] (fun i wr => ∃ k : Nat, k ≤ n ∧ i = .int .i64 k ∧ (∀ j t, ts[j]? = some t → j < k → t.frm = true ∧ t.N = (ts.getD 0 ⟨0, none, 0, []⟩).N) ∧ Same w wr) (fun i _ => n - (intOf i).toNat)
  case atStart => exact ⟨0, by omega, rfl, fun j t _ h => by omega, Frm.refl _ _⟩
  case round =>
    obtain ⟨k, hk, rfl, hall, hs⟩ := hrel
    have HALL := Lib.hid hall
    have HS := Lib.hid hs
    by_cases hlt : k < n
    · have hi1 : (k : Int) < n := by omega
      have hi0 : (0 : Int) ≤ k := by omega
      have hn0 : (0 : Int) < n := by omega
      obtain ⟨t, ht⟩ : ∃ t, ts[k]? = some t := ⟨_, List.getElem?_eq_getElem (by rw [← HN.out]; exact hlt)⟩
      obtain ⟨t0, ht0⟩ : ∃ t, ts[0]? = some t := ⟨_, List.getElem?_eq_getElem (by rw [← HN.out]; omega)⟩
      have hd0 : ts.getD 0 ⟨0, none, 0, []⟩ = t0 := by rw [List.getD_eq_getElem?_getD, ht0]; rfl
      obtain ⟨hg, hc0, hc1⟩ := (H.out.same hs) k t ht
      obtain ⟨_, hz0, _⟩ := (H.out.same hs) 0 t0 ht0
      rw [Nat.zero_mul] at hz0
      have htok := HOK.out t (List.mem_of_getElem? ht)
      have hne : g ≠ wr.heap.size := by omega
      have HT := Lib.hid ht
      have HD0 := Lib.hid hd0
      clear ht ht0 hd0 hall hs
      obtain ⟨tN, tA, tC, tws⟩ := t
      obtain ⟨zN, zA, zC, zws⟩ := t0
      simp only at hc0 hc1 hz0
      have HTOK := Lib.hid htok
      clear htok
      have hbx : ∃ b, (Tb.mk tN tA tC tws).frm = b := ⟨_, rfl⟩
      obtain ⟨bb, hbb⟩ := hbx
      go_upto_region 4 with fail
      refine wp_world fun wa hwa => ?_
      have hsa : Same wr wa := by rw [hwa]; exact (Frm.refl _ _).alloc _
      have hB := Blk.new wr 24 #[.int .i64 tN, .slice tA tws.length tC]
      rw [← hwa] at hB
      have hb0 : wa.cell? ⟨wr.heap.size, 0, none⟩ = some (.int .i64 tN) := hB.cell 0
      have hb1 : wa.cell? ⟨wr.heap.size, 1, none⟩ = some (.slice tA tws.length tC) := hB.cell 1
      have hbl := hB.lt
      have hza : wa.cell? ⟨g, 0, none⟩ = some (.int .i64 zN) := (hsa.cell (p := ⟨g, 0, none⟩) hg id).trans hz0
      have hga : g < wa.heap.size := by omega
      have hfc : ∀ w', Same wa w' → Calls Try.prog 23 #[.agg #[.int .i64 tN, .slice tA tws.length tC]] w' fun e w'' => e = .returned (.bool bb) ∧ Same w' w'' := fun w' hs' => by
        have := HTOK.out.form ((HS.out.trans hsa (fun _ _ h => h)).trans hs' (fun _ _ h => h))
        rw [hbb] at this
        exact this
      have HFC := Lib.hid hfc
      have HSA := Lib.hid (HS.out.trans hsa (fun _ _ h => h))
      have HBB := Lib.hid hbb
      clear hwa hsa hB hc0 hc1 hz0 hg hfc HTOK hbb
      cases bb with
      | false =>
        have hf : r = false := by
          rw [← HR.out]
          unfold fm
          rw [List.all_eq_false]
          exact ⟨_, List.mem_of_getElem? HT.out, by simp [HBB.out]⟩
        subst hf
        refine wp_quiet (by kernel_rfl) (by kernel_rfl) ?_
        repeat (any_goals (first | go_big_quiet_step ((go_at_call 23; exact quiet_call (HFC.out _ (more_same _ _)))) | quiet_step ((go_at_call 23; exact quiet_call (HFC.out _ (more_same _ _))))))
        refine wpQuiet_nil ?_
        rintro _ ⟨q, rfl⟩
        go_wp2
        go_ret
        exact ⟨rfl, HSA.out.trans (more_same _ q) (fun _ _ h => h)⟩
      | true =>
        by_cases hNN : tN = zN
        · subst hNN
          refine wp_quiet (by kernel_rfl) (by kernel_rfl) ?_
          repeat (any_goals (first | go_big_quiet_step ((go_at_call 23; exact quiet_call (HFC.out _ (more_same _ _)))) | quiet_step ((go_at_call 23; exact quiet_call (HFC.out _ (more_same _ _))))))
          refine wpQuiet_nil ?_
          rintro _ ⟨q, rfl⟩
          go_wp2
          go_roundw
          case rel => exact ⟨k + 1, by omega, by go_num, fun j t hj hjk => by
            by_cases hjk2 : j < k
            · exact HALL.out j t hj hjk2
            · obtain rfl : j = k := by omega
              obtain rfl := Option.some.inj (hj.symm.trans HT.out)
              exact ⟨HBB.out, by rw [HD0.out]⟩, HSA.out.trans (more_same _ q) (fun _ _ h => h)⟩
          case measure => simp [intOf]; omega
        · have hne2 : (tN != zN) = true := by simpa using hNN
          have hf : r = false := by
            rw [← HR.out]
            unfold fm
            rw [List.all_eq_false]
            exact ⟨_, List.mem_of_getElem? HT.out, by rw [HD0.out]; simp [hNN]⟩
          subst hf
          clear hNN
          refine wp_quiet (by kernel_rfl) (by kernel_rfl) ?_
          repeat (any_goals (first | go_big_quiet_step ((go_at_call 23; exact quiet_call (HFC.out _ (more_same _ _)))) | quiet_step ((go_at_call 23; exact quiet_call (HFC.out _ (more_same _ _))))))
          refine wpQuiet_nil ?_
          rintro _ ⟨q, rfl⟩
          go_wp2
          go_ret
          exact ⟨rfl, HSA.out.trans (more_same _ q) (fun _ _ h => h)⟩
    · obtain rfl : k = n := by omega
      have hf : r = true := by
        rw [← HR.out]
        unfold fm
        rw [List.all_eq_true]
        intro t ht
        obtain ⟨j, hj⟩ := List.getElem?_of_mem ht
        have := HALL.out j t hj (by rw [HN.out]; exact lt_of_get hj)
        simp [this]
      subst hf
      clear hall hs HALL
      go_wp2
      go_ret
      exact ⟨rfl, HS.out⟩
end Go.Proofs.Ytlggmoghgoeiiaa


/- Truth tables: laid of the program. -/
namespace Go.Proofs.Ytlggmoghgoeiiaa
open Go.RowKit Go.Tk

/-- a table of words of its own -/
def NewT (w : World) (ws : List Nat) (A : Option Addr) (C : Nat) (w' : World) : Prop := OwnW w' A ws.length C ws ∧ Fresh w.heap.size A ∧ Same w w'
def RetT (w : World) (N : Int) (ws : List Nat) (e : Ending) (w' : World) : Prop := ∃ A C, e = .returned (.agg #[.int .i64 N, .slice A ws.length C]) ∧ NewT w ws A C w'
def RetTE (w : World) (N : Int) (ws : List Nat) (err : Int) (e : Ending) (w' : World) : Prop := ∃ A C, e = .returned (.tuple #[.agg #[.int .i64 N, .slice A ws.length C], .int .i64 err]) ∧ NewT w ws A C w'
theorem NewT.nil {w w' : World} (h : Same w w') : NewT w [] none 0 w' := ⟨Own.nil _ _ _ _, fresh_none _, h⟩
theorem NewT.wl {w w' : World} {ws : List Nat} {A : Option Addr} {C : Nat} (h : NewT w ws A C w') : WL w' A ws.length ws := h.1.sl ucell_len
theorem info_u64 : (Try.prog.info? 38).map (fun i => (i.zero, i.size, i.bytes)) = some (some (.int .u64 0), 1, 8) := by kernel_rfl
/-- words laid so far -/
def laidL (n : Nat) (g : Nat → Nat) (k : Nat) : List Nat := (List.range (nw n)).map fun i => if i < k then g i &&& fullN n else 0
theorem laidL_len (n : Nat) (g : Nat → Nat) (k : Nat) : (laidL n g k).length = nw n := by simp [laidL]
theorem laidL_zero (n : Nat) (g : Nat → Nat) : laidL n g 0 = List.replicate (nw n) 0 := by
  apply List.ext_getElem?
  intro i
  rcases Nat.lt_or_ge i (nw n) with h | h
  · simp [laidL, h]
  · rw [List.getElem?_eq_none (by rw [laidL_len]; exact h), List.getElem?_eq_none (by simpa using h)]
theorem laidL_set {n : Nat} {g : Nat → Nat} {k : Nat} (h : k < nw n) : (laidL n g k).set k (g k &&& fullN n) = laidL n g (k + 1) := by
  apply List.ext_getElem?
  intro i
  rcases Nat.lt_or_ge i (nw n) with hi | hi
  · rw [List.getElem?_set, laidL_len]
    simp only [laidL, List.getElem?_map, List.getElem?_range hi, Option.map_some]
    split
    · rename_i he; subst he; simp
    · rename_i he
      congr 1
      by_cases h1 : i < k
      · rw [if_pos h1, if_pos (by omega)]
      · rw [if_neg h1, if_neg (by omega)]
  · rw [List.getElem?_eq_none (by simp [laidL_len, hi]), List.getElem?_eq_none (by rw [laidL_len]; exact hi)]
theorem laidL_full (n : Nat) (g : Nat → Nat) : laidL n g (nw n) = (List.range (nw n)).map fun i => g i &&& fullN n := by
  unfold laidL
  apply List.map_congr_left
  intro i hi
  rw [if_pos (List.mem_range.1 hi)]
/-- a closure that tells the words -/
def Tells (w : World) (n : Nat) (fid : FuncId) (caps : Array Value) (g : Nat → Nat) : Prop :=
  ∀ i : Nat, i < nw n → g i < 18446744073709551616 ∧ ∀ w', Same w w' → Calls Try.prog fid (#[.int .i64 i] ++ caps) w' fun e w'' => e = .returned (.int .u64 (g i : Nat)) ∧ Same w' w''

theorem wp_post {P : Program} {fn : Func} {R : Ending → World → Prop} {x : Exit} {a : Act} {w : World} (h : ∀ w1, w1 = w → bodyPost P fn R x a w1) : bodyPost P fn R x a w := h w rfl
set_option maxHeartbeats 4000000 in
theorem laid_any (n : Nat) (fid : FuncId) (caps : Array Value) (g : Nat → Nat) (w : World) (hn : n ≤ 16) (hen : ∀ (args : Array Value) (w : World), (callFunc fid args).run Try.prog w = .ok (.enter fid args) w) (hcl : Tells w n fid caps g) :
    Calls Try.prog 63 #[.int .i64 n, .func (.func fid) #[] caps] w (RetT w n ((List.range (nw n)).map fun i => g i &&& fullN n)) := by
  have hmk := fun w => run_make_n (P := Try.prog) Try.underlying22 info_u64 .i64 .i64 (nw n) (show 8 * nw n ≤ 281474976710656 by have := nw_le hn; omega) (show nw n ≤ 9223372036854775807 by have := nw_le hn; omega) w
  have HCL := Lib.hid hcl
  have hnl := nw_le hn
  have hwd := fun w => words_any n w hn
  have hfu := fun w => full_any n w hn
  have hfl := fullN_lt n
  have hrl := laidL_full n g
  have HRL := Lib.hid hrl
  have hset : ∀ k, k < nw n → (laidL n g k).set k (g k &&& fullN n) = laidL n g (k + 1) := fun k h => laidL_set h
  have hll := laidL_len n g
  have hcl' := hcl
  have hz := laidL_zero n g
  unfold Tells at hcl'
  rw [← hrl]
  obtain ⟨K, hK⟩ : ∃ K, nw n = K := ⟨_, rfl⟩
  obtain ⟨fu, hfu'⟩ : ∃ fu, fullN n = fu := ⟨_, rfl⟩
  rw [hK] at hmk hnl hwd hset hll hcl' hz ⊢
  rw [hfu'] at hfu hfl hset
  have HLL := Lib.hid hll
  have HZ := Lib.hid hz
  have HSET := Lib.hid hset
  have HWD := Lib.hid hwd
  have HFU := Lib.hid hfu
  have HC := Lib.hid hcl'
  clear hwd hfu hrl hset hcl' hcl HCL hK hfu' HRL hll hz
  go_enter Try.func63, Try.ntmps63
  go_wp2_with (fail)
  refine call_world fun w1 hw1 => ?_
  refine (HWD.out w1).mono ?_
  rintro e w2 ⟨rfl, rfl⟩
  go_upto_region 2 with fail
  refine wp_world fun wb hwb => ?_
  subst hw1
  have hsb : Same w wb := by rw [hwb]; exact (((Frm.refl _ _).alloc _).alloc _).alloc _
  have hBR : Blk wb w.heap.size 24 #[.int .i64 0, .slice none 0 0] := by rw [hwb]; exact ((Blk.new w _ _).alloc _).alloc _
  have hBT : Blk wb (w.heap.size + 1 + 1) 24 #[.int .i64 n, .slice (some ⟨w.heap.size + 1, 0, none⟩) K K] := by
    rw [hwb]
    have := Blk.new ((w.alloc (.cells #[.int .i64 0, .slice none 0 0] 24)).alloc (.cells (madeCells #[.int .u64 0] K) 38)) 24 #[.int .i64 n, .slice (some ⟨w.heap.size + 1, 0, none⟩) K K]
    simpa using this
  have hOD : OwnW wb (some ⟨w.heap.size + 1, 0, none⟩) K K (laidL n g 0) := by
    rw [hwb, HZ.out]
    have := Own.ofMade (m := 1) (w.alloc (.cells #[.int .i64 0, .slice none 0 0] 24)) 38 ucell (fun _ => rfl) (by decide) 0 K (show K ≤ 9223372036854775807 by omega) rfl
    have h2 := Own.frm this ((Frm.refl (fun _ => False) _).alloc (.cells #[.int .i64 n, .slice (some ⟨w.heap.size + 1, 0, none⟩) K K] 24)) (fun _ _ => id)
    simpa [ucell] using h2
  clear hwb hmk
  obtain ⟨T, hT⟩ : ∃ T, w.heap.size + 1 + 1 = T := ⟨_, rfl⟩
  rw [hT] at hBT ⊢
  obtain ⟨D, hD⟩ : ∃ D, w.heap.size + 1 = D := ⟨_, rfl⟩
  rw [hD] at hBT hOD ⊢
  have hnDT : D ≠ T := by omega
  have hnRT : w.heap.size ≠ T := by omega
  have hnRD : w.heap.size ≠ D := by omega
  have hwD : w.heap.size ≤ D := by omega
  have hwT : w.heap.size ≤ T := by omega
  clear hD hT
  have hc1 : wb.cell? ⟨T, 1, none⟩ = some (.slice (some ⟨D, 0, none⟩) K K) := hBT.cell 1
  have hlt0 := hBT.lt
  have HBR := Lib.hid hBR
  have HBT := Lib.hid hBT
  have HOD := Lib.hid hOD
  have HSB := Lib.hid hsb
  clear hBR hBT hOD hsb
  go_wp2
  go_loopw [15] (fun i wr => ∃ k : Nat, k ≤ K ∧ i = .int .i64 k ∧ Same w wr ∧ Blk wr w.heap.size 24 #[.int .i64 0, .slice none 0 0] ∧ Blk wr T 24 #[.int .i64 n, .slice (some ⟨D, 0, none⟩) K K] ∧ OwnW wr (some ⟨D, 0, none⟩) K K (laidL n g k)) (fun i _ => K - (intOf i).toNat)
  case atStart => exact ⟨0, by omega, rfl, HSB.out, HBR.out, HBT.out, HOD.out⟩
  case round =>
    clear HBR HBT HOD HSB hc1 hlt0
    obtain ⟨k, hk, rfl, hs, hBR, hBT, hOD⟩ := hrel
    have HS := Lib.hid hs
    have HBR := Lib.hid hBR
    have HBT := Lib.hid hBT
    have HOD := Lib.hid hOD
    have hcT0 : wr.cell? ⟨T, 0, none⟩ = some (.int .i64 n) := hBT.cell 0
    have hcT : wr.cell? ⟨T, 1, none⟩ = some (.slice (some ⟨D, 0, none⟩) K K) := hBT.cell 1
    have hTl := hBT.lt
    have hRl := hBR.lt
    have hfR0 := hBR.free 0
    have hfR1 := hBR.free 1
    have hcR0 : wr.cell? ⟨w.heap.size, 0, none⟩ = some (.int .i64 0) := hBR.cell 0
    have hcR1 : wr.cell? ⟨w.heap.size, 1, none⟩ = some (.slice none 0 0) := hBR.cell 1
    by_cases hlt : k < K
    · have hi1 : (k : Int) < K := by omega
      have hi0 : (0 : Int) ≤ k := by omega
      obtain ⟨x, hx⟩ : ∃ x, (laidL n g k)[k]? = some x := ⟨_, List.getElem?_eq_getElem (by rw [HLL.out]; exact hlt)⟩
      obtain ⟨sb, hsb, hDl, hcD⟩ := hOD.at1 (c := fun x : Nat => .int .u64 (x : Int)) hx
      injection hsb with hsb
      injection hsb with hsb
      subst hsb
      have hfD := Own.free hOD k
      obtain ⟨hgl, hgc⟩ := HC.out k hlt
      obtain ⟨gk, hgk⟩ : ∃ gk, g k = gk := ⟨_, rfl⟩
      have hst := fun (w' : World) (hs' : Same wr w') => Own.put1 (c := fun x : Nat => .int .u64 (x : Int)) (Own.frm hOD hs' (fun _ _ => id)) (i := k) (by rw [HLL.out]; exact hlt) (g k &&& fu)
      rw [HSET.out k hlt] at hst
      rw [hgk] at hgl hgc hst
      have hand := u64_and_nat gk fu hgl hfl
      have HGC := Lib.hid (fun w' (h : Same wr w') => hgc w' (hs.trans h (fun _ _ h => h)))
      have HST := Lib.hid hst
      clear hs hBR hBT hOD hx hgc hgk hst
      go_upto_region 5 with fail
      refine wp_quiet_tail 10 (by kernel_rfl) (by kernel_rfl) ?_
      simp only [List.take_succ_cons, List.take_zero, List.drop_succ_cons, List.drop_zero]
      repeat (any_goals (first | go_big_quiet_step (first | (go_at_call 60; exact quiet_call ((HFU.out _).mono fun e w' h => ⟨h.1, h.2 ▸ Frm.refl _ _⟩)) | exact quiet_call (HGC.out _ (more_same _ _))) | quiet_step (first | (go_at_call 60; exact quiet_call ((HFU.out _).mono fun e w' h => ⟨h.1, h.2 ▸ Frm.refl _ _⟩)) | exact quiet_call (HGC.out _ (more_same _ _)))))
      refine wpQuiet_nil ?_
      rintro wz ⟨q, hq⟩
      have hsz : Same wr wz := by rw [hq]; exact more_same _ q
      have hfz := Own.free (Own.frm HOD.out hsz (fun _ _ => id)) k
      have hcz := (hsz.cell (p := ⟨D, k, none⟩) hDl id).trans hcD
      have HSZ := Lib.hid ((HS.out.trans hsz (fun _ _ h => h)).setNew (g := D) k (.int .u64 ((gk &&& fu : Nat) : Int)) hwD)
      have HBRz := Lib.hid ((HBR.out.frm hsz id).far (p := ⟨D, k, none⟩) hnRD (.int .u64 ((gk &&& fu : Nat) : Int)))
      have HBTz := Lib.hid ((HBT.out.frm hsz id).far (p := ⟨D, k, none⟩) (Ne.symm hnDT) (.int .u64 ((gk &&& fu : Nat) : Int)))
      have HOZ := Lib.hid (HST.out wz hsz)
      have hDz : D < wz.heap.size := by have := hsz.size; omega
      clear hq hsz hcD hfD hDl hcT0 hcT hcR0 hcR1 hfR0 hfR1 hTl hRl hen
      go_wp2
      go_roundw
      case rel => exact ⟨k + 1, by omega, by go_num, HSZ.out, HBRz.out, HBTz.out, HOZ.out⟩
      case measure => simp [intOf]; omega
    · obtain rfl : k = K := by omega
      clear hs hBR hBT hOD
      go_wp2
      refine wp_post fun we hwe => ?_
      have hBE : Blk we w.heap.size 24 #[.int .i64 n, .slice (some ⟨D, 0, none⟩) k k] := by
        rw [hwe]
        have := (HBR.out.set 0 (.int .i64 n)).set 1 (.slice (some ⟨D, 0, none⟩) k k)
        simpa using this
      have hOE : OwnW we (some ⟨D, 0, none⟩) k k (laidL n g k) := by
        rw [hwe]
        exact (Own.far (p := ⟨w.heap.size, 0, none⟩) HOD.out (fun a ha h => by injection ha with ha; subst ha; exact hnRD h.symm) _).far (p := ⟨w.heap.size, 1, none⟩) (fun a ha h => by injection ha with ha; subst ha; exact hnRD h.symm) _
      have hSE : Same w we := by rw [hwe]; exact (HS.out.setNew 0 _ (Nat.le_refl _)).setNew 1 _ (Nat.le_refl _)
      have hc0 : we.cell? ⟨w.heap.size, 0, none⟩ = some (.int .i64 n) := hBE.cell 0
      have hc1 : we.cell? ⟨w.heap.size, 1, none⟩ = some (.slice (some ⟨D, 0, none⟩) k k) := hBE.cell 1
      clear hwe hBE
      refine bodyPost_ret (v := .agg #[.int .i64 n, .slice (some ⟨D, 0, none⟩) k k]) (by simp [results, Try.results63, go_sem, hc0, hc1]) rfl ?_
      refine ⟨some ⟨D, 0, none⟩, k, by rw [HLL.out], ?_, fresh_some hwD, hSE⟩
      rw [HLL.out]
      exact hOE
end Go.Proofs.Ytlggmoghgoeiiaa


/- Truth tables: column of the program. -/
namespace Go.Proofs.Ytlggmoghgoeiiaa
open Go.RowKit Go.Tk

theorem i64_and_nat (a b : Nat) (ha : a < 9223372036854775808) (hb : b < 9223372036854775808) : bits .and .i64 (a : Int) (b : Int) = ((a &&& b : Nat) : Int) := by
  have hx : a &&& b < 2 ^ 63 := Nat.and_lt_two_pow _ (by omega)
  show IntKind.i64.wrap ((BitVec.ofInt 64 (a : Int) &&& BitVec.ofInt 64 (b : Int)).toNat : Int) = _
  rw [BitVec.toNat_and, ofInt_u64 a (by omega), ofInt_u64 b (by omega)]
  exact IntWalk.i64_in _ (by omega)
theorem i64_or_nat (a b : Nat) (ha : a < 9223372036854775808) (hb : b < 9223372036854775808) : bits .or .i64 (a : Int) (b : Int) = ((a ||| b : Nat) : Int) := by
  have hx : a ||| b < 2 ^ 63 := Nat.or_lt_two_pow (by omega) (by omega)
  show IntKind.i64.wrap ((BitVec.ofInt 64 (a : Int) ||| BitVec.ofInt 64 (b : Int)).toNat : Int) = _
  rw [BitVec.toNat_or, ofInt_u64 a (by omega), ofInt_u64 b (by omega)]
  exact IntWalk.i64_in _ (by omega)
theorem i64_andNot_nat (a b : Nat) (ha : a < 9223372036854775808) (hb : b < 9223372036854775808) : bits .andNot .i64 (a : Int) (b : Int) = ((a &&& (18446744073709551615 - b) : Nat) : Int) := by
  have hx : a &&& (18446744073709551615 - b) < 2 ^ 63 := Nat.lt_of_le_of_lt Nat.and_le_left (by omega)
  show IntKind.i64.wrap ((BitVec.ofInt 64 (a : Int) &&& ~~~BitVec.ofInt 64 (b : Int)).toNat : Int) = _
  rw [BitVec.toNat_and, BitVec.toNat_not, ofInt_u64 a (by omega), ofInt_u64 b (by omega)]
  have e : 2 ^ 64 - 1 - b = 18446744073709551615 - b := by omega
  rw [e]
  exact IntWalk.i64_in _ (by omega)
theorem bsum_or (F : Nat → Bool) (j : Nat) : bsum F j ||| (if F j then 2 ^ j else 0) = bsum F (j + 1) := by
  have h := bsum_lt F j
  rw [bsum]
  cases hF : F j with
  | false => simp
  | true =>
    have h2 := Nat.two_pow_add_eq_or_of_lt h 1
    rw [Nat.mul_one] at h2
    simp only [if_true]
    rw [Nat.or_comm, ← h2, Nat.add_comm]
/-- the word i of the variable v -/
def colN (v i : Nat) : Nat := if v < 6 then bsum (fun j => j.testBit v) 64 else if i.testBit (v - 6) then 18446744073709551615 else 0
theorem colN_lt (v i : Nat) : colN v i < 18446744073709551616 := by
  unfold colN
  split
  · exact bsum_lt _ 64
  · split <;> omega
theorem colN_bit {v i j : Nat} (hj : j < 64) : (colN v i).testBit j = (64 * i + j).testBit v := by
  have h := Nat.testBit_two_pow_mul_add i (show j < 2 ^ 6 from hj) v
  rw [show (64 : Nat) * i + j = 2 ^ 6 * i + j from rfl, h]
  unfold colN
  by_cases h6 : v < 6
  · rw [if_pos h6, if_pos h6, bsum_bit]
    simp [hj]
  · rw [if_neg h6, if_neg h6]
    cases i.testBit (v - 6) with
    | false => simp
    | true =>
      rw [if_pos rfl, show (18446744073709551615 : Nat) = 2 ^ 64 - 1 by decide, Nat.testBit_two_pow_sub_one]
      simpa using hj
theorem testBit_dm (x k : Nat) : x.testBit k = decide (x / 2 ^ k % 2 = 1) := by
  rw [Nat.testBit_eq_decide_div_mod_eq]
theorem colN_top (k i : Nat) (hi : i < 1024) : IntKind.u64.wrap (-bits .and .u64 ((i : Int) / ((2 ^ k : Nat) : Int)) 1) = ((colN (6 + k) i : Nat) : Int) := by
  have h1 : i / 2 ^ k ≤ i := Nat.div_le_self _ _
  have h2 : ((i : Int) / ((2 ^ k : Nat) : Int)) = ((i / 2 ^ k : Nat) : Int) := (Int.natCast_ediv i (2 ^ k)).symm
  have h3 := u64_and_nat (i / 2 ^ k) 1 (by omega) (by omega)
  rw [nat_mask1] at h3
  rw [h2, show (1 : Int) = ((1 : Nat) : Int) from rfl, h3]
  unfold colN
  rw [if_neg (by omega), show 6 + k - 6 = k by omega, testBit_dm]
  generalize i / 2 ^ k = x
  rcases Nat.mod_two_eq_zero_or_one x with h | h
  · rw [h]; decide
  · rw [h]; decide
theorem col_step (F : Nat → Bool) (k m : Nat) (hm : m < 64) (hF : F = fun j : Nat => j.testBit k) :
    bits .and .i64 ((m : Int) / ((2 ^ k : Nat) : Int)) 1 = ((m / 2 ^ k % 2 : Nat) : Int) ∧ IntKind.u64.wrap ((m / 2 ^ k % 2 : Nat) : Int) = ((m / 2 ^ k % 2 : Nat) : Int) ∧
    IntKind.u64.wrap (((m / 2 ^ k % 2 : Nat) : Int) * 2 ^ m) = (((if F m then 2 ^ m else 0) : Nat) : Int) ∧ bits .or .u64 (bsum F m : Nat) (((if F m then 2 ^ m else 0) : Nat) : Int) = (bsum F (m + 1) : Nat) := by
  have h1 : m / 2 ^ k ≤ m := Nat.div_le_self _ _
  have h2 : ((m : Int) / ((2 ^ k : Nat) : Int)) = ((m / 2 ^ k : Nat) : Int) := (Int.natCast_ediv m (2 ^ k)).symm
  have h3 := i64_and_nat (m / 2 ^ k) 1 (by omega) (by omega)
  rw [nat_mask1] at h3
  have hFm : F m = decide (m / 2 ^ k % 2 = 1) := by rw [hF]; exact testBit_dm m k
  have hp : 2 ^ m ≤ 2 ^ 63 := Nat.pow_le_pow_right (by omega) (by omega)
  have hb := bsum_lt F m
  have ho := bsum_or F m
  refine ⟨by rw [h2, show (1 : Int) = ((1 : Nat) : Int) from rfl, h3], IntWalk.u64_in _ (by omega), ?_, ?_⟩
  · rw [hFm, pow_int]
    generalize 2 ^ m = p at hp
    rcases Nat.mod_two_eq_zero_or_one (m / 2 ^ k) with h | h
    · rw [h]; simp; decide
    · rw [h]; simp; exact IntWalk.u64_in _ (by omega)
  · rw [← ho]
    refine u64_or_nat _ _ (by omega) ?_
    split <;> omega
set_option maxHeartbeats 4000000 in
theorem column_any (v i : Nat) (w : World) (hv : v < 16) (hi : i < 1024) : Calls Try.prog 67 #[.int .i64 v, .int .i64 i] w fun e w' => e = .returned (.int .u64 (colN v i : Nat)) ∧ w = w' := by
  by_cases h6 : 6 ≤ v
  · obtain rfl | rfl | rfl | rfl | rfl | rfl | rfl | rfl | rfl | rfl : v = 6 ∨ v = 7 ∨ v = 8 ∨ v = 9 ∨ v = 10 ∨ v = 11 ∨ v = 12 ∨ v = 13 ∨ v = 14 ∨ v = 15 := by omega
    · go_enter Try.func67, Try.ntmps67
      go_wp2
      go_ret
      have h := colN_top 0 i hi
      rw [Nat.pow_zero, show ((1 : Nat) : Int) = 1 from rfl, Int.ediv_one] at h
      exact ⟨ret_int h, rfl⟩
    · go_enter Try.func67, Try.ntmps67
      go_wp2
      go_ret
      exact ⟨ret_int (colN_top 1 i hi), rfl⟩
    · go_enter Try.func67, Try.ntmps67
      go_wp2
      go_ret
      exact ⟨ret_int (colN_top 2 i hi), rfl⟩
    · go_enter Try.func67, Try.ntmps67
      go_wp2
      go_ret
      exact ⟨ret_int (colN_top 3 i hi), rfl⟩
    · go_enter Try.func67, Try.ntmps67
      go_wp2
      go_ret
      exact ⟨ret_int (colN_top 4 i hi), rfl⟩
    · go_enter Try.func67, Try.ntmps67
      go_wp2
      go_ret
      exact ⟨ret_int (colN_top 5 i hi), rfl⟩
    · go_enter Try.func67, Try.ntmps67
      go_wp2
      go_ret
      exact ⟨ret_int (colN_top 6 i hi), rfl⟩
    · go_enter Try.func67, Try.ntmps67
      go_wp2
      go_ret
      exact ⟨ret_int (colN_top 7 i hi), rfl⟩
    · go_enter Try.func67, Try.ntmps67
      go_wp2
      go_ret
      exact ⟨ret_int (colN_top 8 i hi), rfl⟩
    · go_enter Try.func67, Try.ntmps67
      go_wp2
      go_ret
      exact ⟨ret_int (colN_top 9 i hi), rfl⟩
  · obtain rfl | rfl | rfl | rfl | rfl | rfl : v = 0 ∨ v = 1 ∨ v = 2 ∨ v = 3 ∨ v = 4 ∨ v = 5 := by omega
    · obtain ⟨F, hF⟩ : ∃ F, (fun j : Nat => j.testBit 0) = F := ⟨_, rfl⟩
      have hfin : bsum F 64 = colN 0 i := by rw [← hF]; rfl
      have HF := Lib.hid hF
      have HFIN := Lib.hid hfin
      clear hF hfin h6 hv
      go_enter Try.func67, Try.ntmps67
      go_wp2
      go_loopw [5, 16] (fun s j wr => ∃ m : Nat, m ≤ 64 ∧ j = .int .i64 m ∧ s = .int .u64 (bsum F m : Nat) ∧ w = wr) (fun _ j _ => 64 - (intOf j).toNat)
      case atStart => exact ⟨0, by omega, rfl, rfl, rfl⟩
      case round =>
        obtain ⟨m, hm, rfl, rfl, rfl⟩ := hrel
        by_cases hlt : m < 64
        · have hm1 : (m : Int) < 64 := by omega
          have hm0 : (0 : Int) ≤ m := by omega
          obtain ⟨hq1, hq2, hq3, hq4⟩ := col_step F 0 m hlt HF.out.symm
          generalize m / 2 ^ 0 % 2 = r at hq1 hq2 hq3
          generalize (if F m then 2 ^ m else 0) = p at hq3 hq4
          have hq5 : bits .and .i64 (m : Int) 1 = (r : Int) := by rw [Nat.pow_zero, show ((1 : Nat) : Int) = 1 from rfl, Int.ediv_one] at hq1; exact hq1
          clear hq1
          go_upto_region 7 with fail
          refine wp_read 9 ?_
          simp only [List.take_succ_cons, List.take_zero, List.drop_succ_cons, List.drop_zero]
          repeat (any_goals (first | go_big_quiet_step (fail) | quiet_step (fail)))
          refine wpQuiet_nil ?_
          clear hq2 hq3 hq4 hq5
          go_wp2
          go_roundw
          case rel => exact ⟨m + 1, by omega, by go_num, rfl, trivial⟩
          case measure => simp [intOf]; omega
        · obtain rfl : m = 64 := by omega
          rw [HFIN.out]
          go_wp2
          go_ret
          exact ⟨rfl, rfl⟩
    · obtain ⟨F, hF⟩ : ∃ F, (fun j : Nat => j.testBit 1) = F := ⟨_, rfl⟩
      have hfin : bsum F 64 = colN 1 i := by rw [← hF]; rfl
      have HF := Lib.hid hF
      have HFIN := Lib.hid hfin
      clear hF hfin h6 hv
      go_enter Try.func67, Try.ntmps67
      go_wp2
      go_loopw [5, 16] (fun s j wr => ∃ m : Nat, m ≤ 64 ∧ j = .int .i64 m ∧ s = .int .u64 (bsum F m : Nat) ∧ w = wr) (fun _ j _ => 64 - (intOf j).toNat)
      case atStart => exact ⟨0, by omega, rfl, rfl, rfl⟩
      case round =>
        obtain ⟨m, hm, rfl, rfl, rfl⟩ := hrel
        by_cases hlt : m < 64
        · have hm1 : (m : Int) < 64 := by omega
          have hm0 : (0 : Int) ≤ m := by omega
          obtain ⟨hq1, hq2, hq3, hq4⟩ := col_step F 1 m hlt HF.out.symm
          generalize m / 2 ^ 1 % 2 = r at hq1 hq2 hq3
          generalize (if F m then 2 ^ m else 0) = p at hq3 hq4
          have hq5 : bits .and .i64 ((m : Int) / 2) 1 = (r : Int) := hq1
          clear hq1
          go_upto_region 7 with fail
          refine wp_read 9 ?_
          simp only [List.take_succ_cons, List.take_zero, List.drop_succ_cons, List.drop_zero]
          repeat (any_goals (first | go_big_quiet_step (fail) | quiet_step (fail)))
          refine wpQuiet_nil ?_
          clear hq2 hq3 hq4 hq5
          go_wp2
          go_roundw
          case rel => exact ⟨m + 1, by omega, by go_num, rfl, trivial⟩
          case measure => simp [intOf]; omega
        · obtain rfl : m = 64 := by omega
          rw [HFIN.out]
          go_wp2
          go_ret
          exact ⟨rfl, rfl⟩
    · obtain ⟨F, hF⟩ : ∃ F, (fun j : Nat => j.testBit 2) = F := ⟨_, rfl⟩
      have hfin : bsum F 64 = colN 2 i := by rw [← hF]; rfl
      have HF := Lib.hid hF
      have HFIN := Lib.hid hfin
      clear hF hfin h6 hv
      go_enter Try.func67, Try.ntmps67
      go_wp2
      go_loopw [5, 16] (fun s j wr => ∃ m : Nat, m ≤ 64 ∧ j = .int .i64 m ∧ s = .int .u64 (bsum F m : Nat) ∧ w = wr) (fun _ j _ => 64 - (intOf j).toNat)
      case atStart => exact ⟨0, by omega, rfl, rfl, rfl⟩
      case round =>
        obtain ⟨m, hm, rfl, rfl, rfl⟩ := hrel
        by_cases hlt : m < 64
        · have hm1 : (m : Int) < 64 := by omega
          have hm0 : (0 : Int) ≤ m := by omega
          obtain ⟨hq1, hq2, hq3, hq4⟩ := col_step F 2 m hlt HF.out.symm
          generalize m / 2 ^ 2 % 2 = r at hq1 hq2 hq3
          generalize (if F m then 2 ^ m else 0) = p at hq3 hq4
          have hq5 : bits .and .i64 ((m : Int) / 4) 1 = (r : Int) := hq1
          clear hq1
          go_upto_region 7 with fail
          refine wp_read 9 ?_
          simp only [List.take_succ_cons, List.take_zero, List.drop_succ_cons, List.drop_zero]
          repeat (any_goals (first | go_big_quiet_step (fail) | quiet_step (fail)))
          refine wpQuiet_nil ?_
          clear hq2 hq3 hq4 hq5
          go_wp2
          go_roundw
          case rel => exact ⟨m + 1, by omega, by go_num, rfl, trivial⟩
          case measure => simp [intOf]; omega
        · obtain rfl : m = 64 := by omega
          rw [HFIN.out]
          go_wp2
          go_ret
          exact ⟨rfl, rfl⟩
    · obtain ⟨F, hF⟩ : ∃ F, (fun j : Nat => j.testBit 3) = F := ⟨_, rfl⟩
      have hfin : bsum F 64 = colN 3 i := by rw [← hF]; rfl
      have HF := Lib.hid hF
      have HFIN := Lib.hid hfin
      clear hF hfin h6 hv
      go_enter Try.func67, Try.ntmps67
      go_wp2
      go_loopw [5, 16] (fun s j wr => ∃ m : Nat, m ≤ 64 ∧ j = .int .i64 m ∧ s = .int .u64 (bsum F m : Nat) ∧ w = wr) (fun _ j _ => 64 - (intOf j).toNat)
      case atStart => exact ⟨0, by omega, rfl, rfl, rfl⟩
      case round =>
        obtain ⟨m, hm, rfl, rfl, rfl⟩ := hrel
        by_cases hlt : m < 64
        · have hm1 : (m : Int) < 64 := by omega
          have hm0 : (0 : Int) ≤ m := by omega
          obtain ⟨hq1, hq2, hq3, hq4⟩ := col_step F 3 m hlt HF.out.symm
          generalize m / 2 ^ 3 % 2 = r at hq1 hq2 hq3
          generalize (if F m then 2 ^ m else 0) = p at hq3 hq4
          have hq5 : bits .and .i64 ((m : Int) / 8) 1 = (r : Int) := hq1
          clear hq1
          go_upto_region 7 with fail
          refine wp_read 9 ?_
          simp only [List.take_succ_cons, List.take_zero, List.drop_succ_cons, List.drop_zero]
          repeat (any_goals (first | go_big_quiet_step (fail) | quiet_step (fail)))
          refine wpQuiet_nil ?_
          clear hq2 hq3 hq4 hq5
          go_wp2
          go_roundw
          case rel => exact ⟨m + 1, by omega, by go_num, rfl, trivial⟩
          case measure => simp [intOf]; omega
        · obtain rfl : m = 64 := by omega
          rw [HFIN.out]
          go_wp2
          go_ret
          exact ⟨rfl, rfl⟩
    · obtain ⟨F, hF⟩ : ∃ F, (fun j : Nat => j.testBit 4) = F := ⟨_, rfl⟩
      have hfin : bsum F 64 = colN 4 i := by rw [← hF]; rfl
      have HF := Lib.hid hF
      have HFIN := Lib.hid hfin
      clear hF hfin h6 hv
      go_enter Try.func67, Try.ntmps67
      go_wp2
      go_loopw [5, 16] (fun s j wr => ∃ m : Nat, m ≤ 64 ∧ j = .int .i64 m ∧ s = .int .u64 (bsum F m : Nat) ∧ w = wr) (fun _ j _ => 64 - (intOf j).toNat)
      case atStart => exact ⟨0, by omega, rfl, rfl, rfl⟩
      case round =>
        obtain ⟨m, hm, rfl, rfl, rfl⟩ := hrel
        by_cases hlt : m < 64
        · have hm1 : (m : Int) < 64 := by omega
          have hm0 : (0 : Int) ≤ m := by omega
          obtain ⟨hq1, hq2, hq3, hq4⟩ := col_step F 4 m hlt HF.out.symm
          generalize m / 2 ^ 4 % 2 = r at hq1 hq2 hq3
          generalize (if F m then 2 ^ m else 0) = p at hq3 hq4
          have hq5 : bits .and .i64 ((m : Int) / 16) 1 = (r : Int) := hq1
          clear hq1
          go_upto_region 7 with fail
          refine wp_read 9 ?_
          simp only [List.take_succ_cons, List.take_zero, List.drop_succ_cons, List.drop_zero]
          repeat (any_goals (first | go_big_quiet_step (fail) | quiet_step (fail)))
          refine wpQuiet_nil ?_
          clear hq2 hq3 hq4 hq5
          go_wp2
          go_roundw
          case rel => exact ⟨m + 1, by omega, by go_num, rfl, trivial⟩
          case measure => simp [intOf]; omega
        · obtain rfl : m = 64 := by omega
          rw [HFIN.out]
          go_wp2
          go_ret
          exact ⟨rfl, rfl⟩
    · obtain ⟨F, hF⟩ : ∃ F, (fun j : Nat => j.testBit 5) = F := ⟨_, rfl⟩
      have hfin : bsum F 64 = colN 5 i := by rw [← hF]; rfl
      have HF := Lib.hid hF
      have HFIN := Lib.hid hfin
      clear hF hfin h6 hv
      go_enter Try.func67, Try.ntmps67
      go_wp2
      go_loopw [5, 16] (fun s j wr => ∃ m : Nat, m ≤ 64 ∧ j = .int .i64 m ∧ s = .int .u64 (bsum F m : Nat) ∧ w = wr) (fun _ j _ => 64 - (intOf j).toNat)
      case atStart => exact ⟨0, by omega, rfl, rfl, rfl⟩
      case round =>
        obtain ⟨m, hm, rfl, rfl, rfl⟩ := hrel
        by_cases hlt : m < 64
        · have hm1 : (m : Int) < 64 := by omega
          have hm0 : (0 : Int) ≤ m := by omega
          obtain ⟨hq1, hq2, hq3, hq4⟩ := col_step F 5 m hlt HF.out.symm
          generalize m / 2 ^ 5 % 2 = r at hq1 hq2 hq3
          generalize (if F m then 2 ^ m else 0) = p at hq3 hq4
          have hq5 : bits .and .i64 ((m : Int) / 32) 1 = (r : Int) := hq1
          clear hq1
          go_upto_region 7 with fail
          refine wp_read 9 ?_
          simp only [List.take_succ_cons, List.take_zero, List.drop_succ_cons, List.drop_zero]
          repeat (any_goals (first | go_big_quiet_step (fail) | quiet_step (fail)))
          refine wpQuiet_nil ?_
          clear hq2 hq3 hq4 hq5
          go_wp2
          go_roundw
          case rel => exact ⟨m + 1, by omega, by go_num, rfl, trivial⟩
          case measure => simp [intOf]; omega
        · obtain rfl : m = 64 := by omega
          rw [HFIN.out]
          go_wp2
          go_ret
          exact ⟨rfl, rfl⟩
end Go.Proofs.Ytlggmoghgoeiiaa


/- math/bits.OnesCount64: walked. -/
namespace Go.Proofs.Ytlggmoghgoeiiaa
open Go.RowKit Go.Tk

set_option maxRecDepth 100000 in
set_option maxHeartbeats 2000000 in
theorem ones_any (x : Nat) (w : World) (hx : x < 18446744073709551616) : Calls Try.prog 58 #[.int .u64 x] w fun e w' => e = .returned (.int .i64 (popc x : Nat)) ∧ w = w' := by
  obtain ⟨x1, e1⟩ : ∃ v, v = ((x / 2) &&& 6148914691236517205) + (x &&& 6148914691236517205) := ⟨_, rfl⟩
  obtain ⟨x2, e2⟩ : ∃ v, v = ((x1 / 4) &&& 3689348814741910323) + (x1 &&& 3689348814741910323) := ⟨_, rfl⟩
  obtain ⟨x3, e3⟩ : ∃ v, v = (x2 / 16 + x2) &&& 1085102592571150095 := ⟨_, rfl⟩
  obtain ⟨x4, e4⟩ : ∃ v, v = x3 + x3 / 256 := ⟨_, rfl⟩
  obtain ⟨x5, e5⟩ : ∃ v, v = x4 + x4 / 65536 := ⟨_, rfl⟩
  obtain ⟨x6, e6⟩ : ∃ v, v = x5 + x5 / 4294967296 := ⟨_, rfl⟩
  obtain ⟨l1, l2, l23, l3, l4, l5, l6, hp⟩ := popc_steps x x1 x2 x3 x4 x5 x6 hx e1 e2 e3 e4 e5 e6
  have a1 := u64_and_nat (x / 2) 6148914691236517205 (by omega) (by omega)
  have a2 := u64_and_nat x 6148914691236517205 (by omega) (by omega)
  have b1 := u64_and_nat (x1 / 4) 3689348814741910323 (by omega) (by omega)
  have b2 := u64_and_nat x1 3689348814741910323 (by omega) (by omega)
  have c1 := u64_and_nat (x2 / 16 + x2) 1085102592571150095 (by omega) (by omega)
  rw [← e3] at c1
  have d1 := i64_and_nat x6 127 l6 (by omega)
  rw [show x6 &&& 127 = x6 % 128 from Nat.and_two_pow_sub_one_eq_mod x6 7, hp] at d1
  generalize (x / 2) &&& 6148914691236517205 = v1 at *
  generalize x &&& 6148914691236517205 = v2 at *
  generalize (x1 / 4) &&& 3689348814741910323 = v3 at *
  generalize x1 &&& 3689348814741910323 = v4 at *
  have w1 : IntKind.u64.wrap ((v1 : Int) + v2) = (x1 : Int) := by rw [IntWalk.u64_in _ (by omega)]; omega
  have w2 : IntKind.u64.wrap ((v3 : Int) + v4) = (x2 : Int) := by rw [IntWalk.u64_in _ (by omega)]; omega
  have w3 : IntKind.u64.wrap ((x2 : Int) / 16 + x2) = ((x2 / 16 + x2 : Nat) : Int) := by rw [IntWalk.u64_in _ (by omega)]; omega
  have w4 : IntKind.u64.wrap ((x3 : Int) + (x3 : Int) / 256) = (x4 : Int) := by rw [IntWalk.u64_in _ (by omega)]; omega
  have w5 : IntKind.u64.wrap ((x4 : Int) + (x4 : Int) / 65536) = (x5 : Int) := by rw [IntWalk.u64_in _ (by omega)]; omega
  have w6 : IntKind.u64.wrap ((x5 : Int) + (x5 : Int) / 4294967296) = (x6 : Int) := by rw [IntWalk.u64_in _ (by omega)]; omega
  have w7 : IntKind.i64.wrap (x6 : Int) = (x6 : Int) := IntWalk.i64_in _ (by omega)
  have i1 : ((x / 2 : Nat) : Int) = (x : Int) / 2 := by omega
  have i2 : ((x1 / 4 : Nat) : Int) = (x1 : Int) / 4 := by omega
  have i3 : ((x2 / 16 + x2 : Nat) : Int) = (x2 : Int) / 16 + x2 := by omega
  rw [i1] at a1
  rw [i2] at b1
  rw [i3] at c1 w3
  have a1' : bits .and .u64 ((x : Int) / 2) 6148914691236517205 = (v1 : Int) := a1
  have a2' : bits .and .u64 (x : Int) 6148914691236517205 = (v2 : Int) := a2
  have b1' : bits .and .u64 ((x1 : Int) / 4) 3689348814741910323 = (v3 : Int) := b1
  have b2' : bits .and .u64 (x1 : Int) 3689348814741910323 = (v4 : Int) := b2
  have c1' : bits .and .u64 ((x2 : Int) / 16 + x2) 1085102592571150095 = (x3 : Int) := c1
  have d1' : bits .and .i64 (x6 : Int) 127 = (popc x : Int) := d1
  clear a1 a2 b1 b2 c1 d1
  clear i1 i2 i3 e1 e2 e3 e4 e5 e6 hp
  go_enter Try.func58, Try.ntmps58
  go_wp2
  go_ret
  exact ⟨rfl, rfl⟩
end Go.Proofs.Ytlggmoghgoeiiaa


/- Truth tables: Const and Var of the program. -/
namespace Go.Proofs.Ytlggmoghgoeiiaa
open Go.RowKit Go.Tk

theorem var1_any (i v B : Nat) (w : World) (hv : v < 16) (hi : i < 1024) (hc : w.cell? ⟨B, 0, none⟩ = some (.int .i64 v)) :
    Calls Try.prog 66 #[.int .i64 i, .pointer (some ⟨B, 0, none⟩)] w fun e w' => e = .returned (.int .u64 (colN v i : Nat)) ∧ w = w' := by
  go_enter Try.func66, Try.ntmps66
  go_wp2_with (fail)
  refine (column_any v i w hv hi).mono ?_
  rintro e w2 ⟨rfl, rfl⟩
  go_wp2
  go_ret
  exact ⟨rfl, rfl⟩
theorem const1_any (i B : Nat) (b : Bool) (w : World) (hc : w.cell? ⟨B, 0, none⟩ = some (.bool b)) :
    Calls Try.prog 64 #[.int .i64 i, .pointer (some ⟨B, 0, none⟩)] w fun e w' => e = .returned (.int .u64 ((if b then 18446744073709551615 else 0 : Nat) : Nat)) ∧ w = w' := by
  cases b
  · go_enter Try.func64, Try.ntmps64
    go_wp2
    go_ret
    exact ⟨rfl, rfl⟩
  · go_enter Try.func64, Try.ntmps64
    go_wp2
    go_ret
    exact ⟨rfl, rfl⟩
/-- the words laid for a function -/
theorem laid_tab {n : Nat} {g : Nat → Nat} {F : Nat → Bool} (h : ∀ k, k < nw n → ∀ j, j < 64 → 64 * k + j < 2 ^ n → (g k).testBit j = F (64 * k + j)) : ((List.range (nw n)).map fun i => g i &&& fullN n) = tab n F := by
  unfold tab
  apply List.map_congr_left
  intro k hk
  exact word_laid (List.mem_range.1 hk) (h k (List.mem_range.1 hk))
/-- the answer: the table where there is no error -/
def ansN (n : Int) (e : Int) : Int := if e = 0 then n else 0
def ansL (ws : List Nat) (e : Int) : List Nat := if e = 0 then ws else []
/-- a call that answers a table and an error -/
def RetA (w : World) (n : Int) (ws : List Nat) (err : Int) : Ending → World → Prop := RetTE w (ansN n err) (ansL ws err) err
def varE (n v : Int) : Int := if cntE n ≠ 0 then cntE n else if v < 0 ∨ n ≤ v then 2 else 0
def varF (v : Nat) : Nat → Bool := fun i => i.testBit v
theorem cntE_ok {n : Int} (h : cntE n = 0) : 0 ≤ n ∧ n ≤ 16 := by
  unfold cntE at h
  split at h
  · cases h
  · split at h
    · cases h
    · omega

set_option maxHeartbeats 2000000 in
theorem Var_any (n v : Int) (w : World) : Calls Try.prog 27 #[.int .i64 n, .int .i64 v] w (RetA w n (tab n.toNat (varF v.toNat)) (varE n v)) := by
  have hmf : ∀ (fn : Fn) (first cap : Array Value) (w : World), (Instr.makeFunc fn first cap).run Try.prog w = .ok (.func fn first cap) w := fun _ _ _ _ => rfl
  have hct := fun w => count_any n w
  obtain ⟨c, hc⟩ : ∃ c, cntE n = c := ⟨_, rfl⟩
  rw [hc] at hct
  have HCT := Lib.hid hct
  clear hct
  by_cases h0 : ¬ c = 0
  · have he : varE n v = c := by unfold varE; rw [hc, if_pos h0]
    have h0' : (c != 0) = true := by simpa using h0
    unfold RetA
    rw [he, show ansN n c = 0 by unfold ansN; rw [if_neg h0], show ansL (tab n.toNat (varF v.toNat)) c = [] by unfold ansL; rw [if_neg h0]]
    clear he hc h0 hmf
    go_enter Try.func27, Try.ntmps27
    go_upto_region 1 with fail
    refine wp_world fun w1 hw1 => ?_
    have hs1 : Same w w1 := by rw [hw1]; exact ((Frm.refl _ _).alloc _).alloc _
    have hBB : Blk w1 (w.heap.size) 3 #[.int .i64 v] := by
      rw [hw1]
      have := ((Blk.new w 3 #[.int .i64 v]).alloc (.cells #[.int .i64 0, .slice none 0 0] 24))
      simpa using this
    have hBR : Blk w1 (w.heap.size + 1) 24 #[.int .i64 0, .slice none 0 0] := by
      rw [hw1]
      have := (Blk.new (w.alloc (.cells #[.int .i64 v] 3)) 24 #[.int .i64 0, .slice none 0 0])
      simpa using this
    clear hw1
    obtain ⟨R, hR⟩ : ∃ b, w.heap.size + 1 = b := ⟨_, rfl⟩
    rw [hR] at hBR ⊢
    have leR : w.heap.size ≤ R := by omega
    have neBR : w.heap.size ≠ R := by omega
    clear hR
    have cB0 : w1.cell? ⟨w.heap.size, 0, none⟩ = some (.int .i64 v) := hBB.cell 0
    have lB := hBB.lt
    have fB0 := hBB.free 0
    have HBB := Lib.hid hBB
    have cR0 : w1.cell? ⟨R, 0, none⟩ = some (.int .i64 0) := hBR.cell 0
    have cR1 : w1.cell? ⟨R, 1, none⟩ = some (.slice none 0 0) := hBR.cell 1
    have lR := hBR.lt
    have fR0 := hBR.free 0
    have fR1 := hBR.free 1
    have HBR := Lib.hid hBR
    have HS1 := Lib.hid hs1
    clear hs1 hBB hBR
    go_wp2_with (fail)
    refine (HCT.out w1).mono ?_
    rintro e w2 ⟨rfl, rfl⟩
    go_wp2
    refine wp_post fun we hwe => ?_
    have hBE : Blk we R 24 #[.int .i64 0, .slice none 0 0] := by
      rw [hwe]
      have := (HBR.out.set 0 (.int .i64 0)).set 1 (.slice none 0 0)
      simpa using this
    have hSE : Same w we := by rw [hwe]; exact (HS1.out.setNew 0 _ leR).setNew 1 _ leR
    have hr0 : we.cell? ⟨R, 0, none⟩ = some (.int .i64 0) := hBE.cell 0
    have hr1 : we.cell? ⟨R, 1, none⟩ = some (.slice none 0 0) := hBE.cell 1
    clear hwe hBE
    refine bodyPost_ret (v := .tuple #[.agg #[.int .i64 0, .slice none 0 0], .int .i64 c]) (by simp [results, Try.results27, go_sem, hr0, hr1]) rfl ?_
    exact ⟨none, 0, rfl, NewT.nil hSE⟩
  replace h0 : c = 0 := by omega
  subst h0
  obtain ⟨hn0, hn16⟩ := cntE_ok hc
  obtain ⟨N, rfl⟩ := Int.eq_ofNat_of_zero_le hn0
  have hn : N ≤ 16 := by omega
  by_cases h1 : v < 0 ∨ (N : Int) ≤ v
  · have he : varE N v = 2 := by unfold varE; rw [hc, if_neg (by simp), if_pos h1]
    unfold RetA
    rw [he, show ansN N 2 = 0 from rfl, show ansL (tab (N : Int).toNat (varF v.toNat)) 2 = [] from rfl]
    clear he hc hmf
    by_cases h2 : v < 0
    · clear h1
      go_enter Try.func27, Try.ntmps27
      go_upto_region 1 with fail
      refine wp_world fun w1 hw1 => ?_
      have hs1 : Same w w1 := by rw [hw1]; exact ((Frm.refl _ _).alloc _).alloc _
      have hBB : Blk w1 (w.heap.size) 3 #[.int .i64 v] := by
        rw [hw1]
        have := ((Blk.new w 3 #[.int .i64 v]).alloc (.cells #[.int .i64 0, .slice none 0 0] 24))
        simpa using this
      have hBR : Blk w1 (w.heap.size + 1) 24 #[.int .i64 0, .slice none 0 0] := by
        rw [hw1]
        have := (Blk.new (w.alloc (.cells #[.int .i64 v] 3)) 24 #[.int .i64 0, .slice none 0 0])
        simpa using this
      clear hw1
      obtain ⟨R, hR⟩ : ∃ b, w.heap.size + 1 = b := ⟨_, rfl⟩
      rw [hR] at hBR ⊢
      have leR : w.heap.size ≤ R := by omega
      have neBR : w.heap.size ≠ R := by omega
      clear hR
      have cB0 : w1.cell? ⟨w.heap.size, 0, none⟩ = some (.int .i64 v) := hBB.cell 0
      have lB := hBB.lt
      have fB0 := hBB.free 0
      have HBB := Lib.hid hBB
      have cR0 : w1.cell? ⟨R, 0, none⟩ = some (.int .i64 0) := hBR.cell 0
      have cR1 : w1.cell? ⟨R, 1, none⟩ = some (.slice none 0 0) := hBR.cell 1
      have lR := hBR.lt
      have fR0 := hBR.free 0
      have fR1 := hBR.free 1
      have HBR := Lib.hid hBR
      have HS1 := Lib.hid hs1
      clear hs1 hBB hBR
      go_wp2_with (fail)
      refine (HCT.out w1).mono ?_
      rintro e w2 ⟨rfl, rfl⟩
      go_wp2
      refine wp_post fun we hwe => ?_
      have hBE : Blk we R 24 #[.int .i64 0, .slice none 0 0] := by
        rw [hwe]
        have := (HBR.out.set 0 (.int .i64 0)).set 1 (.slice none 0 0)
        simpa using this
      have hSE : Same w we := by rw [hwe]; exact (HS1.out.setNew 0 _ leR).setNew 1 _ leR
      have hr0 : we.cell? ⟨R, 0, none⟩ = some (.int .i64 0) := hBE.cell 0
      have hr1 : we.cell? ⟨R, 1, none⟩ = some (.slice none 0 0) := hBE.cell 1
      clear hwe hBE
      refine bodyPost_ret (v := .tuple #[.agg #[.int .i64 0, .slice none 0 0], .int .i64 2]) (by simp [results, Try.results27, go_sem, hr0, hr1]) rfl ?_
      exact ⟨none, 0, rfl, NewT.nil hSE⟩
    · have h3 : v ≥ (N : Int) := by omega
      clear h1
      go_enter Try.func27, Try.ntmps27
      go_upto_region 1 with fail
      refine wp_world fun w1 hw1 => ?_
      have hs1 : Same w w1 := by rw [hw1]; exact ((Frm.refl _ _).alloc _).alloc _
      have hBB : Blk w1 (w.heap.size) 3 #[.int .i64 v] := by
        rw [hw1]
        have := ((Blk.new w 3 #[.int .i64 v]).alloc (.cells #[.int .i64 0, .slice none 0 0] 24))
        simpa using this
      have hBR : Blk w1 (w.heap.size + 1) 24 #[.int .i64 0, .slice none 0 0] := by
        rw [hw1]
        have := (Blk.new (w.alloc (.cells #[.int .i64 v] 3)) 24 #[.int .i64 0, .slice none 0 0])
        simpa using this
      clear hw1
      obtain ⟨R, hR⟩ : ∃ b, w.heap.size + 1 = b := ⟨_, rfl⟩
      rw [hR] at hBR ⊢
      have leR : w.heap.size ≤ R := by omega
      have neBR : w.heap.size ≠ R := by omega
      clear hR
      have cB0 : w1.cell? ⟨w.heap.size, 0, none⟩ = some (.int .i64 v) := hBB.cell 0
      have lB := hBB.lt
      have fB0 := hBB.free 0
      have HBB := Lib.hid hBB
      have cR0 : w1.cell? ⟨R, 0, none⟩ = some (.int .i64 0) := hBR.cell 0
      have cR1 : w1.cell? ⟨R, 1, none⟩ = some (.slice none 0 0) := hBR.cell 1
      have lR := hBR.lt
      have fR0 := hBR.free 0
      have fR1 := hBR.free 1
      have HBR := Lib.hid hBR
      have HS1 := Lib.hid hs1
      clear hs1 hBB hBR
      go_wp2_with (fail)
      refine (HCT.out w1).mono ?_
      rintro e w2 ⟨rfl, rfl⟩
      go_wp2
      refine wp_post fun we hwe => ?_
      have hBE : Blk we R 24 #[.int .i64 0, .slice none 0 0] := by
        rw [hwe]
        have := (HBR.out.set 0 (.int .i64 0)).set 1 (.slice none 0 0)
        simpa using this
      have hSE : Same w we := by rw [hwe]; exact (HS1.out.setNew 0 _ leR).setNew 1 _ leR
      have hr0 : we.cell? ⟨R, 0, none⟩ = some (.int .i64 0) := hBE.cell 0
      have hr1 : we.cell? ⟨R, 1, none⟩ = some (.slice none 0 0) := hBE.cell 1
      clear hwe hBE
      refine bodyPost_ret (v := .tuple #[.agg #[.int .i64 0, .slice none 0 0], .int .i64 2]) (by simp [results, Try.results27, go_sem, hr0, hr1]) rfl ?_
      exact ⟨none, 0, rfl, NewT.nil hSE⟩
  · obtain ⟨V, rfl⟩ : ∃ V : Nat, v = V := ⟨v.toNat, by omega⟩
    have hV : V < N := by omega
    have h2 : ¬ (V : Int) < 0 := by omega
    have h3 : ¬ (V : Int) ≥ N := by omega
    have he : varE N V = 0 := by unfold varE; rw [hc, if_neg (by simp), if_neg h1]
    unfold RetA
    rw [he, show ansN N 0 = N from rfl, show ansL (tab (N : Int).toNat (varF (V : Int).toNat)) 0 = tab N (varF V) from rfl]
    have HTB := Lib.hid (laid_tab (n := N) (g := colN V) (F := varF V) fun k _ j hj _ => colN_bit hj)
    have hen : ∀ (args : Array Value) (w : World), (callFunc 66 args).run Try.prog w = .ok (.enter 66 args) w := enters_of Try.func66 (by kernel_rfl) rfl
    have HEN := Lib.hid hen
    clear he hc h1 hen
    go_enter Try.func27, Try.ntmps27
    go_upto_region 1 with fail
    refine wp_world fun w1 hw1 => ?_
    have hs1 : Same w w1 := by rw [hw1]; exact ((Frm.refl _ _).alloc _).alloc _
    have hBB : Blk w1 (w.heap.size) 3 #[.int .i64 V] := by
      rw [hw1]
      have := ((Blk.new w 3 #[.int .i64 V]).alloc (.cells #[.int .i64 0, .slice none 0 0] 24))
      simpa using this
    have hBR : Blk w1 (w.heap.size + 1) 24 #[.int .i64 0, .slice none 0 0] := by
      rw [hw1]
      have := (Blk.new (w.alloc (.cells #[.int .i64 V] 3)) 24 #[.int .i64 0, .slice none 0 0])
      simpa using this
    clear hw1
    obtain ⟨R, hR⟩ : ∃ b, w.heap.size + 1 = b := ⟨_, rfl⟩
    rw [hR] at hBR ⊢
    have leR : w.heap.size ≤ R := by omega
    have neBR : w.heap.size ≠ R := by omega
    clear hR
    have cB0 : w1.cell? ⟨w.heap.size, 0, none⟩ = some (.int .i64 V) := hBB.cell 0
    have lB := hBB.lt
    have fB0 := hBB.free 0
    have HBB := Lib.hid hBB
    have cR0 : w1.cell? ⟨R, 0, none⟩ = some (.int .i64 0) := hBR.cell 0
    have cR1 : w1.cell? ⟨R, 1, none⟩ = some (.slice none 0 0) := hBR.cell 1
    have lR := hBR.lt
    have fR0 := hBR.free 0
    have fR1 := hBR.free 1
    have HBR := Lib.hid hBR
    have HS1 := Lib.hid hs1
    clear hs1 hBB hBR
    have htl : (Tells w1 N 66 #[.pointer (some ⟨w.heap.size, 0, none⟩)] (colN V)) := fun i hi => ⟨colN_lt V i, fun w' hs' => by
      refine (var1_any i V w.heap.size w' (by omega) (by have := nw_le hn; omega) ((hs'.cell (p := ⟨w.heap.size, 0, none⟩) lB id).trans cB0)).mono ?_
      rintro e w'' ⟨rfl, rfl⟩
      exact ⟨rfl, Frm.refl _ _⟩⟩
    have HTL := Lib.hid htl
    clear htl
    go_wp2_with (fail)
    refine (HCT.out w1).mono ?_
    rintro e w2 ⟨rfl, rfl⟩
    go_wp2_with (fail)
    refine (laid_any N 66 #[.pointer (some ⟨w.heap.size, 0, none⟩)] (colN V) w1 hn HEN.out HTL.out).mono ?_
    rintro e w3 ⟨Aq, Cq, rfl, hNT⟩
    rw [HTB.out] at hNT ⊢
    have hoq := hNT.1
    have hfq := hNT.2.1
    have hsq := hNT.2.2
    have hRq : ∀ a, Aq = some a → a.block ≠ R := fun a ha h => by
      have := hfq a.block ⟨a, ha, rfl⟩
      omega
    have HBRq := Lib.hid (HBR.out.frm hsq id)
    have HSq := Lib.hid (HS1.out.trans hsq (fun _ _ h => h))
    have hfq' : Fresh w.heap.size Aq := fun b hb => by have := hfq b hb; have := HS1.out.size; omega
    have HOQ := Lib.hid hoq
    have HFQ := Lib.hid hfq'
    have hcR0 : w3.cell? ⟨R, 0, none⟩ = some (.int .i64 0) := HBRq.out.cell 0
    have hcR1 : w3.cell? ⟨R, 1, none⟩ = some (.slice none 0 0) := HBRq.out.cell 1
    have hfR0 := HBRq.out.free 0
    have hfR1 := HBRq.out.free 1
    have hlR := HBRq.out.lt
    clear hNT hoq hfq hsq hfq'
    go_wp2
    refine wp_post fun we hwe => ?_
    have hBE : Blk we R 24 #[.int .i64 N, .slice Aq (tab N (varF V)).length Cq] := by
      rw [hwe]
      have := (HBRq.out.set 0 (.int .i64 N)).set 1 (.slice Aq (tab N (varF V)).length Cq)
      simpa using this
    have hSE : Same w we := by rw [hwe]; exact (HSq.out.setNew 0 _ leR).setNew 1 _ leR
    have hOE : OwnW we Aq (tab N (varF V)).length Cq (tab N (varF V)) := by
      rw [hwe]
      exact (Own.far (p := ⟨R, 0, none⟩) HOQ.out hRq _).far (p := ⟨R, 1, none⟩) hRq _
    have hr0 : we.cell? ⟨R, 0, none⟩ = some (.int .i64 N) := hBE.cell 0
    have hr1 : we.cell? ⟨R, 1, none⟩ = some (.slice Aq (tab N (varF V)).length Cq) := hBE.cell 1
    clear hwe hBE
    refine bodyPost_ret (v := .tuple #[.agg #[.int .i64 N, .slice Aq (tab N (varF V)).length Cq], .int .i64 0]) (by simp [results, Try.results27, go_sem, hr0, hr1]) rfl ?_
    exact ⟨Aq, Cq, rfl, hOE, HFQ.out, hSE⟩
end Go.Proofs.Ytlggmoghgoeiiaa


/- Truth tables: Const and Not of the program. -/
namespace Go.Proofs.Ytlggmoghgoeiiaa
open Go.RowKit Go.Tk

theorem vb_word {ws : List Nat} {k x j : Nat} (h : ws[k]? = some x) (hj : j < 64) : vb ws (64 * k + j) = x.testBit j := by
  unfold vb
  rw [show (64 * k + j) / 64 = k by omega, show (64 * k + j) % 64 = j by omega, List.getD_eq_getElem?_getD, h]
  rfl
/-- all bits turned -/
def notN (x : Nat) : Nat := 18446744073709551615 - x
theorem notN_lt (x : Nat) : notN x < 18446744073709551616 := by unfold notN; omega
theorem notN_bit {x j : Nat} (hx : x < 18446744073709551616) (hj : j < 64) : (notN x).testBit j = !x.testBit j := by
  have h := Nat.testBit_two_pow_sub_succ (x := x) (n := 64) hx j
  unfold notN
  rw [show 18446744073709551615 - x = 2 ^ 64 - (x + 1) by omega, h]
  simp [hj]
theorem xor_not {x : Nat} (hx : x < 18446744073709551616) : bits .xor .u64 IntKind.u64.max (x : Int) = (notN x : Nat) := by
  have h := u64_xor_nat 18446744073709551615 x (by omega) hx
  rw [show IntKind.u64.max = ((18446744073709551615 : Nat) : Int) by decide, h]
  congr 1
  apply Nat.eq_of_testBit_eq
  intro j
  rw [Nat.testBit_xor, show (18446744073709551615 : Nat) = 2 ^ 64 - 1 by decide, Nat.testBit_two_pow_sub_one]
  by_cases hj : j < 64
  · rw [notN_bit hx hj]
    simp [hj]
  · have h1 : (notN x).testBit j = false := Nat.testBit_lt_two_pow (Nat.lt_of_lt_of_le (notN_lt x) (Nat.pow_le_pow_right (show 0 < 2 by omega) (show 64 ≤ j by omega)))
    have h2 : x.testBit j = false := Nat.testBit_lt_two_pow (Nat.lt_of_lt_of_le hx (Nat.pow_le_pow_right (show 0 < 2 by omega) (show 64 ≤ j by omega)))
    rw [h1, h2]
    simp [hj]
theorem not1_any (i B : Nat) (A : Option Addr) (C : Nat) (ws : List Nat) (w : World) (hi : i < ws.length) (h : WL w A ws.length ws) (hb : Small ws)
    (hc1 : w.cell? ⟨B, 1, none⟩ = some (.slice A ws.length C)) :
    Calls Try.prog 69 #[.int .i64 i, .pointer (some ⟨B, 0, none⟩)] w fun e w' => e = .returned (.int .u64 (notN (ws.getD i 0) : Nat)) ∧ w = w' := by
  obtain ⟨x, hx⟩ : ∃ x, ws[i]? = some x := ⟨_, List.getElem?_eq_getElem hi⟩
  obtain ⟨b, off, rfl, hbl, hc⟩ := h.at1 hx
  have hxor := xor_not (hb.at1 hx)
  have hi0 : (0 : Int) ≤ i := by omega
  have hi1 : (i : Int) < ws.length := by omega
  have hsg : ¬ IntKind.u64.signed = true := by decide
  rw [show ws.getD i 0 = x by rw [List.getD_eq_getElem?_getD, hx]; rfl]
  clear hx
  go_enter Try.func69, Try.ntmps69
  go_wp2
  go_ret
  exact ⟨rfl, rfl⟩
set_option maxHeartbeats 2000000 in
theorem Const_any (n : Int) (b : Bool) (w : World) : Calls Try.prog 25 #[.int .i64 n, .bool b] w (RetA w n (tab n.toNat (fun _ => b)) (cntE n)) := by
  have hmf : ∀ (fn : Fn) (first cap : Array Value) (w : World), (Instr.makeFunc fn first cap).run Try.prog w = .ok (.func fn first cap) w := fun _ _ _ _ => rfl
  have hct := fun w => count_any n w
  obtain ⟨c, hc⟩ : ∃ c, cntE n = c := ⟨_, rfl⟩
  rw [hc] at hct ⊢
  have HCT := Lib.hid hct
  clear hct
  by_cases h0 : ¬ c = 0
  · have h0' : (c != 0) = true := by simpa using h0
    unfold RetA
    rw [show ansN n c = 0 by unfold ansN; rw [if_neg h0], show ansL (tab n.toNat (fun _ => b)) c = [] by unfold ansL; rw [if_neg h0]]
    clear hc h0 hmf
    go_enter Try.func25, Try.ntmps25
    go_upto_region 1 with fail
    refine wp_world fun w1 hw1 => ?_
    have hs1 : Same w w1 := by rw [hw1]; exact ((Frm.refl _ _).alloc _).alloc _
    have hBB : Blk w1 (w.heap.size) 4 #[.bool b] := by
      rw [hw1]
      have := ((Blk.new w 4 #[.bool b]).alloc (.cells #[.int .i64 0, .slice none 0 0] 24))
      simpa using this
    have hBR : Blk w1 (w.heap.size + 1) 24 #[.int .i64 0, .slice none 0 0] := by
      rw [hw1]
      have := (Blk.new (w.alloc (.cells #[.bool b] 4)) 24 #[.int .i64 0, .slice none 0 0])
      simpa using this
    clear hw1
    obtain ⟨R, hR⟩ : ∃ b, w.heap.size + 1 = b := ⟨_, rfl⟩
    rw [hR] at hBR ⊢
    have leR : w.heap.size ≤ R := by omega
    have neBR : w.heap.size ≠ R := by omega
    clear hR
    have cB0 : w1.cell? ⟨w.heap.size, 0, none⟩ = some (.bool b) := hBB.cell 0
    have lB := hBB.lt
    have fB0 := hBB.free 0
    have HBB := Lib.hid hBB
    have cR0 : w1.cell? ⟨R, 0, none⟩ = some (.int .i64 0) := hBR.cell 0
    have cR1 : w1.cell? ⟨R, 1, none⟩ = some (.slice none 0 0) := hBR.cell 1
    have lR := hBR.lt
    have fR0 := hBR.free 0
    have fR1 := hBR.free 1
    have HBR := Lib.hid hBR
    have HS1 := Lib.hid hs1
    clear hs1 hBB hBR
    go_wp2_with (fail)
    refine (HCT.out w1).mono ?_
    rintro e w2 ⟨rfl, rfl⟩
    go_wp2
    refine wp_post fun we hwe => ?_
    have hBE : Blk we R 24 #[.int .i64 0, .slice none 0 0] := by
      rw [hwe]
      have := (HBR.out.set 0 (.int .i64 0)).set 1 (.slice none 0 0)
      simpa using this
    have hSE : Same w we := by rw [hwe]; exact (HS1.out.setNew 0 _ leR).setNew 1 _ leR
    have hr0 : we.cell? ⟨R, 0, none⟩ = some (.int .i64 0) := hBE.cell 0
    have hr1 : we.cell? ⟨R, 1, none⟩ = some (.slice none 0 0) := hBE.cell 1
    clear hwe hBE
    refine bodyPost_ret (v := .tuple #[.agg #[.int .i64 0, .slice none 0 0], .int .i64 c]) (by simp [results, Try.results25, go_sem, hr0, hr1]) rfl ?_
    exact ⟨none, 0, rfl, NewT.nil hSE⟩
  replace h0 : c = 0 := by omega
  subst h0
  obtain ⟨hn0, hn16⟩ := cntE_ok hc
  obtain ⟨N, rfl⟩ := Int.eq_ofNat_of_zero_le hn0
  have hn : N ≤ 16 := by omega
  unfold RetA
  rw [show ansN N 0 = N from rfl, show ansL (tab (N : Int).toNat (fun _ => b)) 0 = tab N (fun _ => b) from rfl]
  have HTB := Lib.hid (laid_tab (n := N) (g := fun _ => if b then 18446744073709551615 else 0) (F := fun _ => b) fun k _ j hj _ => by
    cases b
    · simp
    · simp only [if_true]
      rw [show (18446744073709551615 : Nat) = 2 ^ 64 - 1 by decide, Nat.testBit_two_pow_sub_one]
      simpa using hj)
  have hen : ∀ (args : Array Value) (w : World), (callFunc 64 args).run Try.prog w = .ok (.enter 64 args) w := enters_of Try.func64 (by kernel_rfl) rfl
  have HEN := Lib.hid hen
  clear hc hen
  go_enter Try.func25, Try.ntmps25
  go_upto_region 1 with fail
  refine wp_world fun w1 hw1 => ?_
  have hs1 : Same w w1 := by rw [hw1]; exact ((Frm.refl _ _).alloc _).alloc _
  have hBB : Blk w1 (w.heap.size) 4 #[.bool b] := by
    rw [hw1]
    have := ((Blk.new w 4 #[.bool b]).alloc (.cells #[.int .i64 0, .slice none 0 0] 24))
    simpa using this
  have hBR : Blk w1 (w.heap.size + 1) 24 #[.int .i64 0, .slice none 0 0] := by
    rw [hw1]
    have := (Blk.new (w.alloc (.cells #[.bool b] 4)) 24 #[.int .i64 0, .slice none 0 0])
    simpa using this
  clear hw1
  obtain ⟨R, hR⟩ : ∃ b, w.heap.size + 1 = b := ⟨_, rfl⟩
  rw [hR] at hBR ⊢
  have leR : w.heap.size ≤ R := by omega
  have neBR : w.heap.size ≠ R := by omega
  clear hR
  have cB0 : w1.cell? ⟨w.heap.size, 0, none⟩ = some (.bool b) := hBB.cell 0
  have lB := hBB.lt
  have fB0 := hBB.free 0
  have HBB := Lib.hid hBB
  have cR0 : w1.cell? ⟨R, 0, none⟩ = some (.int .i64 0) := hBR.cell 0
  have cR1 : w1.cell? ⟨R, 1, none⟩ = some (.slice none 0 0) := hBR.cell 1
  have lR := hBR.lt
  have fR0 := hBR.free 0
  have fR1 := hBR.free 1
  have HBR := Lib.hid hBR
  have HS1 := Lib.hid hs1
  clear hs1 hBB hBR
  have htl : Tells w1 N 64 #[.pointer (some ⟨w.heap.size, 0, none⟩)] (fun _ => if b then 18446744073709551615 else 0) := fun i hi => ⟨by cases b <;> simp, fun w' hs' => by
    refine (const1_any i w.heap.size b w' ((hs'.cell (p := ⟨w.heap.size, 0, none⟩) lB id).trans cB0)).mono ?_
    rintro e w'' ⟨rfl, rfl⟩
    exact ⟨rfl, Frm.refl _ _⟩⟩
  have HTL := Lib.hid htl
  clear htl
  go_wp2_with (fail)
  refine (HCT.out w1).mono ?_
  rintro e w2 ⟨rfl, rfl⟩
  go_wp2_with (fail)
  refine (laid_any N 64 #[.pointer (some ⟨w.heap.size, 0, none⟩)] (fun _ => if b then 18446744073709551615 else 0) w1 hn HEN.out HTL.out).mono ?_
  rintro e w3 ⟨Aq, Cq, rfl, hNT⟩
  rw [HTB.out] at hNT ⊢
  have hoq := hNT.1
  have hfq := hNT.2.1
  have hsq := hNT.2.2
  have hRq : ∀ a, Aq = some a → a.block ≠ R := fun a ha h => by
    have := hfq a.block ⟨a, ha, rfl⟩
    omega
  have HBRq := Lib.hid (HBR.out.frm hsq id)
  have HSq := Lib.hid (HS1.out.trans hsq (fun _ _ h => h))
  have hfq' : Fresh w.heap.size Aq := fun b hb => by have := hfq b hb; have := HS1.out.size; omega
  have HOQ := Lib.hid hoq
  have HFQ := Lib.hid hfq'
  have hcR0 : w3.cell? ⟨R, 0, none⟩ = some (.int .i64 0) := HBRq.out.cell 0
  have hcR1 : w3.cell? ⟨R, 1, none⟩ = some (.slice none 0 0) := HBRq.out.cell 1
  have hfR0 := HBRq.out.free 0
  have hfR1 := HBRq.out.free 1
  have hlR := HBRq.out.lt
  clear hNT hoq hfq hsq hfq'
  go_wp2
  refine wp_post fun we hwe => ?_
  have hBE : Blk we R 24 #[.int .i64 N, .slice Aq (tab N (fun _ => b)).length Cq] := by
    rw [hwe]
    have := (HBRq.out.set 0 (.int .i64 N)).set 1 (.slice Aq (tab N (fun _ => b)).length Cq)
    simpa using this
  have hSE : Same w we := by rw [hwe]; exact (HSq.out.setNew 0 _ leR).setNew 1 _ leR
  have hOE : OwnW we Aq (tab N (fun _ => b)).length Cq (tab N (fun _ => b)) := by
    rw [hwe]
    exact (Own.far (p := ⟨R, 0, none⟩) HOQ.out hRq _).far (p := ⟨R, 1, none⟩) hRq _
  have hr0 : we.cell? ⟨R, 0, none⟩ = some (.int .i64 N) := hBE.cell 0
  have hr1 : we.cell? ⟨R, 1, none⟩ = some (.slice Aq (tab N (fun _ => b)).length Cq) := hBE.cell 1
  clear hwe hBE
  refine bodyPost_ret (v := .tuple #[.agg #[.int .i64 N, .slice Aq (tab N (fun _ => b)).length Cq], .int .i64 0]) (by simp [results, Try.results25, go_sem, hr0, hr1]) rfl ?_
  exact ⟨Aq, Cq, rfl, hOE, HFQ.out, hSE⟩

/-- the error of tables -/
def fmE (b : Bool) : Int := if b then 0 else 5
def notF (ws : List Nat) : Nat → Bool := fun i => !vb ws i
theorem frm_one (N : Int) (A : Option Addr) (C : Nat) (ws : List Nat) : fm [⟨N, A, C, ws⟩] = frm N ws := by simp [fm, Tb.frm]
set_option maxHeartbeats 2000000 in
theorem Not_any (Na : Int) (Aa : Option Addr) (Ca : Nat) (wsa : List Nat) (w : World) (h : TbOk w ⟨Na, Aa, Ca, wsa⟩) :
    Calls Try.prog 29 #[.agg #[.int .i64 Na, .slice Aa wsa.length Ca]] w (RetA w Na (tab Na.toNat (notF wsa)) (fmE (frm Na wsa))) := by
  have hmf : ∀ (fn : Fn) (first cap : Array Value) (w : World), (Instr.makeFunc fn first cap).run Try.prog w = .ok (.func fn first cap) w := fun _ _ _ _ => rfl
  have H := Lib.hid h
  clear h
  cases hfr : frm Na wsa with
  | false =>
    unfold RetA
    rw [show fmE false = 5 from rfl, show ansN Na 5 = 0 from rfl, show ansL (tab Na.toNat (notF wsa)) 5 = [] from rfl]
    have HFM := Lib.hid ((frm_one Na Aa Ca wsa).trans hfr)
    clear hfr hmf
    go_enter Try.func29, Try.ntmps29
    go_upto_region 1 with fail
    refine wp_world fun w1 hw1 => ?_
    have hs1 : Same w w1 := by rw [hw1]; exact ((Frm.refl _ _).alloc _).alloc _
    have hBB : Blk w1 (w.heap.size) 24 #[.int .i64 Na, .slice Aa wsa.length Ca] := by
      rw [hw1]
      have := ((Blk.new w 24 #[.int .i64 Na, .slice Aa wsa.length Ca]).alloc (.cells #[.int .i64 0, .slice none 0 0] 24))
      simpa using this
    have hBR : Blk w1 (w.heap.size + 1) 24 #[.int .i64 0, .slice none 0 0] := by
      rw [hw1]
      have := (Blk.new (w.alloc (.cells #[.int .i64 Na, .slice Aa wsa.length Ca] 24)) 24 #[.int .i64 0, .slice none 0 0])
      simpa using this
    clear hw1
    obtain ⟨R, hR⟩ : ∃ b, w.heap.size + 1 = b := ⟨_, rfl⟩
    rw [hR] at hBR ⊢
    have leR : w.heap.size ≤ R := by omega
    have neBR : w.heap.size ≠ R := by omega
    clear hR
    have cB0 : w1.cell? ⟨w.heap.size, 0, none⟩ = some (.int .i64 Na) := hBB.cell 0
    have cB1 : w1.cell? ⟨w.heap.size, 1, none⟩ = some (.slice Aa wsa.length Ca) := hBB.cell 1
    have lB := hBB.lt
    have fB0 := hBB.free 0
    have fB1 := hBB.free 1
    have HBB := Lib.hid hBB
    have cR0 : w1.cell? ⟨R, 0, none⟩ = some (.int .i64 0) := hBR.cell 0
    have cR1 : w1.cell? ⟨R, 1, none⟩ = some (.slice none 0 0) := hBR.cell 1
    have lR := hBR.lt
    have fR0 := hBR.free 0
    have fR1 := hBR.free 1
    have HBR := Lib.hid hBR
    have HS1 := Lib.hid hs1
    clear hs1 hBB hBR
    have HOKa := Lib.hid (H.out.same HS1.out)
    go_wp2_with (fail)
    refine call_world fun w2 hw2 => ?_
    have hs2 : Same w1 w2 := by rw [hw2]; exact (Frm.refl _ _).alloc _
    have hBL : Blk w2 w1.heap.size 24 #[.int .i64 Na, .slice Aa wsa.length Ca] := by rw [hw2]; exact Blk.new _ _ _
    have htbs : Tbs w2 w1.heap.size [⟨Na, Aa, Ca, wsa⟩] := by
      intro i t hi
      match i, hi with
      | 0, hi =>
        simp only [List.getElem?_cons_zero, Option.some.injEq] at hi
        subst hi
        exact ⟨hBL.lt, hBL.cell 0, hBL.cell 1⟩
      | i + 1, hi => simp at hi
    have hfc := form_any w1.heap.size 1 1 [⟨Na, Aa, Ca, wsa⟩] w2 rfl (by decide) htbs (fun t ht => by
      simp only [List.mem_cons, List.not_mem_nil, or_false] at ht
      rcases ht with rfl
      · exact (HOKa.out).same hs2)
    rw [HFM.out] at hfc
    refine hfc.mono ?_
    clear hfc htbs hBL hw2
    rintro e w3 ⟨rfl, hs3⟩
    have hs13 : Same w1 w3 := hs2.trans hs3 (fun _ _ h => h)
    clear hs2 hs3
    replace HBB := Lib.hid (HBB.out.frm hs13 id)
    replace cB0 : w3.cell? ⟨w.heap.size, 0, none⟩ = some (.int .i64 Na) := HBB.out.cell 0
    replace cB1 : w3.cell? ⟨w.heap.size, 1, none⟩ = some (.slice Aa wsa.length Ca) := HBB.out.cell 1
    replace lB := HBB.out.lt
    replace fB0 := HBB.out.free 0
    replace fB1 := HBB.out.free 1
    replace HBR := Lib.hid (HBR.out.frm hs13 id)
    replace cR0 : w3.cell? ⟨R, 0, none⟩ = some (.int .i64 0) := HBR.out.cell 0
    replace cR1 : w3.cell? ⟨R, 1, none⟩ = some (.slice none 0 0) := HBR.out.cell 1
    replace lR := HBR.out.lt
    replace fR0 := HBR.out.free 0
    replace fR1 := HBR.out.free 1
    replace HS1 := Lib.hid (HS1.out.trans hs13 (fun _ _ h => h))
    clear hs13
    go_wp2
    refine wp_post fun we hwe => ?_
    have hBE : Blk we R 24 #[.int .i64 0, .slice none 0 0] := by
      rw [hwe]
      have := (HBR.out.set 0 (.int .i64 0)).set 1 (.slice none 0 0)
      simpa using this
    have hSE : Same w we := by rw [hwe]; exact (HS1.out.setNew 0 _ leR).setNew 1 _ leR
    have hr0 : we.cell? ⟨R, 0, none⟩ = some (.int .i64 0) := hBE.cell 0
    have hr1 : we.cell? ⟨R, 1, none⟩ = some (.slice none 0 0) := hBE.cell 1
    clear hwe hBE
    refine bodyPost_ret (v := .tuple #[.agg #[.int .i64 0, .slice none 0 0], .int .i64 5]) (by simp [results, Try.results29, go_sem, hr0, hr1]) rfl ?_
    exact ⟨none, 0, rfl, NewT.nil hSE⟩
  | true =>
    obtain ⟨n, rfl, hform⟩ := frm_true hfr
    unfold RetA
    rw [show fmE true = 0 from rfl, show ansN n 0 = n from rfl, show ansL (tab (n : Int).toNat (notF wsa)) 0 = tab n (notF wsa) from rfl]
    have HFM := Lib.hid ((frm_one n Aa Ca wsa).trans hfr)
    have hn := hform.n16
    have hsm := H.out.small
    have HTB := Lib.hid (laid_tab (n := n) (g := fun i => notN (wsa.getD i 0)) (F := notF wsa) fun k hk j hj _ => by
      obtain ⟨x, hx⟩ : ∃ x, wsa[k]? = some x := ⟨_, List.getElem?_eq_getElem (by rw [hform.len]; exact hk)⟩
      rw [show wsa.getD k 0 = x by rw [List.getD_eq_getElem?_getD, hx]; rfl, notN_bit (hsm.at1 hx) hj]
      unfold notF
      rw [vb_word hx hj])
    have hen : ∀ (args : Array Value) (w : World), (callFunc 69 args).run Try.prog w = .ok (.enter 69 args) w := enters_of Try.func69 (by kernel_rfl) rfl
    have HEN := Lib.hid hen
    have HLEN := Lib.hid hform.len
    have HSM := Lib.hid hsm
    clear hfr hen hform hsm
    go_enter Try.func29, Try.ntmps29
    go_upto_region 1 with fail
    refine wp_world fun w1 hw1 => ?_
    have hs1 : Same w w1 := by rw [hw1]; exact ((Frm.refl _ _).alloc _).alloc _
    have hBB : Blk w1 (w.heap.size) 24 #[.int .i64 n, .slice Aa wsa.length Ca] := by
      rw [hw1]
      have := ((Blk.new w 24 #[.int .i64 n, .slice Aa wsa.length Ca]).alloc (.cells #[.int .i64 0, .slice none 0 0] 24))
      simpa using this
    have hBR : Blk w1 (w.heap.size + 1) 24 #[.int .i64 0, .slice none 0 0] := by
      rw [hw1]
      have := (Blk.new (w.alloc (.cells #[.int .i64 n, .slice Aa wsa.length Ca] 24)) 24 #[.int .i64 0, .slice none 0 0])
      simpa using this
    clear hw1
    obtain ⟨R, hR⟩ : ∃ b, w.heap.size + 1 = b := ⟨_, rfl⟩
    rw [hR] at hBR ⊢
    have leR : w.heap.size ≤ R := by omega
    have neBR : w.heap.size ≠ R := by omega
    clear hR
    have cB0 : w1.cell? ⟨w.heap.size, 0, none⟩ = some (.int .i64 n) := hBB.cell 0
    have cB1 : w1.cell? ⟨w.heap.size, 1, none⟩ = some (.slice Aa wsa.length Ca) := hBB.cell 1
    have lB := hBB.lt
    have fB0 := hBB.free 0
    have fB1 := hBB.free 1
    have HBB := Lib.hid hBB
    have cR0 : w1.cell? ⟨R, 0, none⟩ = some (.int .i64 0) := hBR.cell 0
    have cR1 : w1.cell? ⟨R, 1, none⟩ = some (.slice none 0 0) := hBR.cell 1
    have lR := hBR.lt
    have fR0 := hBR.free 0
    have fR1 := hBR.free 1
    have HBR := Lib.hid hBR
    have HS1 := Lib.hid hs1
    clear hs1 hBB hBR
    have HOKa := Lib.hid (H.out.same HS1.out)
    go_wp2_with (fail)
    refine call_world fun w2 hw2 => ?_
    have hs2 : Same w1 w2 := by rw [hw2]; exact (Frm.refl _ _).alloc _
    have hBL : Blk w2 w1.heap.size 24 #[.int .i64 n, .slice Aa wsa.length Ca] := by rw [hw2]; exact Blk.new _ _ _
    have htbs : Tbs w2 w1.heap.size [⟨n, Aa, Ca, wsa⟩] := by
      intro i t hi
      match i, hi with
      | 0, hi =>
        simp only [List.getElem?_cons_zero, Option.some.injEq] at hi
        subst hi
        exact ⟨hBL.lt, hBL.cell 0, hBL.cell 1⟩
      | i + 1, hi => simp at hi
    have hfc := form_any w1.heap.size 1 1 [⟨n, Aa, Ca, wsa⟩] w2 rfl (by decide) htbs (fun t ht => by
      simp only [List.mem_cons, List.not_mem_nil, or_false] at ht
      rcases ht with rfl
      · exact (HOKa.out).same hs2)
    rw [HFM.out] at hfc
    refine hfc.mono ?_
    clear hfc htbs hBL hw2
    rintro e w3 ⟨rfl, hs3⟩
    have hs13 : Same w1 w3 := hs2.trans hs3 (fun _ _ h => h)
    clear hs2 hs3
    replace HBB := Lib.hid (HBB.out.frm hs13 id)
    replace cB0 : w3.cell? ⟨w.heap.size, 0, none⟩ = some (.int .i64 n) := HBB.out.cell 0
    replace cB1 : w3.cell? ⟨w.heap.size, 1, none⟩ = some (.slice Aa wsa.length Ca) := HBB.out.cell 1
    replace lB := HBB.out.lt
    replace fB0 := HBB.out.free 0
    replace fB1 := HBB.out.free 1
    replace HBR := Lib.hid (HBR.out.frm hs13 id)
    replace cR0 : w3.cell? ⟨R, 0, none⟩ = some (.int .i64 0) := HBR.out.cell 0
    replace cR1 : w3.cell? ⟨R, 1, none⟩ = some (.slice none 0 0) := HBR.out.cell 1
    replace lR := HBR.out.lt
    replace fR0 := HBR.out.free 0
    replace fR1 := HBR.out.free 1
    replace HS1 := Lib.hid (HS1.out.trans hs13 (fun _ _ h => h))
    clear hs13
    have htl : Tells w3 n 69 #[.pointer (some ⟨w.heap.size, 0, none⟩)] (fun i => notN (wsa.getD i 0)) := fun i hi => ⟨notN_lt _, fun w' hs' => by
      refine (not1_any i w.heap.size Aa Ca wsa w' (by rw [HLEN.out]; exact hi) (Sl.same (Sl.same H.out.wl HS1.out) hs') HSM.out ((hs'.cell (p := ⟨w.heap.size, 1, none⟩) lB id).trans cB1)).mono ?_
      rintro e w'' ⟨rfl, rfl⟩
      exact ⟨rfl, Frm.refl _ _⟩⟩
    have HTL := Lib.hid htl
    clear htl
    go_wp2_with (fail)
    refine (laid_any n 69 #[.pointer (some ⟨w.heap.size, 0, none⟩)] (fun i => notN (wsa.getD i 0)) w3 hn HEN.out HTL.out).mono ?_
    rintro e w4 ⟨Aq, Cq, rfl, hNT⟩
    rw [HTB.out] at hNT ⊢
    have hoq := hNT.1
    have hfq := hNT.2.1
    have hsq := hNT.2.2
    have hRq : ∀ a, Aq = some a → a.block ≠ R := fun a ha h => by
      have := hfq a.block ⟨a, ha, rfl⟩
      omega
    have HBRq := Lib.hid (HBR.out.frm hsq id)
    have HSq := Lib.hid (HS1.out.trans hsq (fun _ _ h => h))
    have hfq' : Fresh w.heap.size Aq := fun b hb => by have := hfq b hb; have := HS1.out.size; omega
    have HOQ := Lib.hid hoq
    have HFQ := Lib.hid hfq'
    have hcR0 : w4.cell? ⟨R, 0, none⟩ = some (.int .i64 0) := HBRq.out.cell 0
    have hcR1 : w4.cell? ⟨R, 1, none⟩ = some (.slice none 0 0) := HBRq.out.cell 1
    have hfR0 := HBRq.out.free 0
    have hfR1 := HBRq.out.free 1
    have hlR := HBRq.out.lt
    clear hNT hoq hfq hsq hfq'
    go_wp2
    refine wp_post fun we hwe => ?_
    have hBE : Blk we R 24 #[.int .i64 n, .slice Aq (tab n (notF wsa)).length Cq] := by
      rw [hwe]
      have := (HBRq.out.set 0 (.int .i64 n)).set 1 (.slice Aq (tab n (notF wsa)).length Cq)
      simpa using this
    have hSE : Same w we := by rw [hwe]; exact (HSq.out.setNew 0 _ leR).setNew 1 _ leR
    have hOE : OwnW we Aq (tab n (notF wsa)).length Cq (tab n (notF wsa)) := by
      rw [hwe]
      exact (Own.far (p := ⟨R, 0, none⟩) HOQ.out hRq _).far (p := ⟨R, 1, none⟩) hRq _
    have hr0 : we.cell? ⟨R, 0, none⟩ = some (.int .i64 n) := hBE.cell 0
    have hr1 : we.cell? ⟨R, 1, none⟩ = some (.slice Aq (tab n (notF wsa)).length Cq) := hBE.cell 1
    clear hwe hBE
    refine bodyPost_ret (v := .tuple #[.agg #[.int .i64 n, .slice Aq (tab n (notF wsa)).length Cq], .int .i64 0]) (by simp [results, Try.results29, go_sem, hr0, hr1]) rfl ?_
    exact ⟨Aq, Cq, rfl, hOE, HFQ.out, hSE⟩
end Go.Proofs.Ytlggmoghgoeiiaa


/- Truth tables: Binary of the program. -/
namespace Go.Proofs.Ytlggmoghgoeiiaa
open Go.RowKit Go.Tk

/-- the parts that the bits of op choose -/
def bwL (op : Nat) (pL : Nat → Nat) : Nat → Nat
  | 0 => 0
  | m + 1 => if op.testBit m then bwL op pL m ||| pL m else bwL op pL m
theorem bwL_lt {op : Nat} {pL : Nat → Nat} (h : ∀ m, pL m < 18446744073709551616) : ∀ m, bwL op pL m < 18446744073709551616
  | 0 => by simp [bwL]
  | m + 1 => by
    rw [bwL]
    split
    · exact Nat.or_lt_two_pow (n := 64) (bwL_lt h m) (h m)
    · exact bwL_lt h m
def partN (x y : Nat) : Nat → Nat
  | 0 => notN x &&& notN y
  | 1 => notN x &&& y
  | 2 => x &&& notN y
  | 3 => x &&& y
  | _ => 0
theorem partN_lt (x y : Nat) (hx : x < 18446744073709551616) : ∀ m, partN x y m < 18446744073709551616
  | 0 => Nat.lt_of_le_of_lt Nat.and_le_left (notN_lt x)
  | 1 => Nat.lt_of_le_of_lt Nat.and_le_left (notN_lt x)
  | 2 => Nat.lt_of_le_of_lt Nat.and_le_left hx
  | 3 => Nat.lt_of_le_of_lt Nat.and_le_left hx
  | m + 4 => by show (0 : Nat) < _; omega
def binN (op x y : Nat) : Nat := bwL op (partN x y) 4
theorem binN_bit {op x y j : Nat} (hx : x < 18446744073709551616) (hy : y < 18446744073709551616) (hj : j < 64) : (binN op x y).testBit j = op.testBit ((if x.testBit j then 2 else 0) + (if y.testBit j then 1 else 0)) := by
  have h1 := notN_bit hx hj
  have h2 := notN_bit hy hj
  unfold binN
  simp only [bwL]
  cases ho0 : op.testBit 0 <;> cases ho1 : op.testBit 1 <;> cases ho2 : op.testBit 2 <;> cases ho3 : op.testBit 3 <;>
    cases hxj : x.testBit j <;> cases hyj : y.testBit j <;> simp only [partN, if_true, if_false, Bool.false_eq_true, Nat.testBit_or, Nat.testBit_and, h1, h2, hxj, hyj, Nat.zero_testBit, ho0, ho1, ho2, ho3, Bool.not_true, Bool.not_false, Bool.and_true, Bool.and_false, Bool.or_true, Bool.or_false, Nat.zero_add, Nat.add_zero, Nat.reduceAdd]
theorem u8_shift (op m : Nat) (hop : op < 256) : bits .and .u8 ((op : Int) / 2 ^ m) 1 = ((op / 2 ^ m % 2 : Nat) : Int) := by
  have h1 : op / 2 ^ m ≤ op := Nat.div_le_self _ _
  have h2 : ((op : Int) / 2 ^ m) = ((op / 2 ^ m : Nat) : Int) := by rw [pow_int]; exact (Int.natCast_ediv op (2 ^ m)).symm
  have h3 := u8_and_nat (op / 2 ^ m) 1 (by omega) (by omega)
  rw [nat_mask1] at h3
  rw [h2, show (1 : Int) = ((1 : Nat) : Int) from rfl, h3]
set_option maxHeartbeats 2000000 in
theorem binary1_any (i Ba Bb Bo op : Nat) (w : World) (Aa : Option Addr) (Ca : Nat) (wsa : List Nat) (hia : i < wsa.length) (ha : WL w Aa wsa.length wsa) (hba : Small wsa) (hca1 : w.cell? ⟨Ba, 1, none⟩ = some (.slice Aa wsa.length Ca)) (Ab : Option Addr) (Cb : Nat) (wsb : List Nat) (hib : i < wsb.length) (hb : WL w Ab wsb.length wsb) (hbb : Small wsb) (hcb1 : w.cell? ⟨Bb, 1, none⟩ = some (.slice Ab wsb.length Cb)) (hop : op < 256) (hco : w.cell? ⟨Bo, 0, none⟩ = some (.int .u8 op)) :
    Calls Try.prog 71 #[.int .i64 i, .pointer (some ⟨Ba, 0, none⟩), .pointer (some ⟨Bb, 0, none⟩), .pointer (some ⟨Bo, 0, none⟩)] w fun e w' => e = .returned (.int .u64 (binN op (wsa.getD i 0) (wsb.getD i 0) : Nat)) ∧ Same w w' := by
  obtain ⟨x, hxa⟩ : ∃ x, wsa[i]? = some x := ⟨_, List.getElem?_eq_getElem hia⟩
  obtain ⟨ba, offa, rfl, hbla, hca⟩ := ha.at1 hxa
  have hbx := hba.at1 hxa
  have hi1a : (i : Int) < wsa.length := by omega
  have hlBa : Ba < w.heap.size := World.block_lt_of_cell? w _ hca1
  rw [show wsa.getD i 0 = x by rw [List.getD_eq_getElem?_getD, hxa]; rfl]
  obtain ⟨y, hxb⟩ : ∃ x, wsb[i]? = some x := ⟨_, List.getElem?_eq_getElem hib⟩
  obtain ⟨bb, offb, rfl, hblb, hcb⟩ := hb.at1 hxb
  have hby := hbb.at1 hxb
  have hi1b : (i : Int) < wsb.length := by omega
  have hlBb : Bb < w.heap.size := World.block_lt_of_cell? w _ hcb1
  rw [show wsb.getD i 0 = y by rw [List.getD_eq_getElem?_getD, hxb]; rfl]
  have hi0 : (0 : Int) ≤ i := by omega
  have hxorx := xor_not hbx
  have hxory := xor_not hby
  have hsg : ¬ IntKind.u64.signed = true := by decide
  have hlx := notN_lt x
  have hly := notN_lt y
  have hp0 : notN x &&& notN y = partN x y 0 := rfl
  have hp1 : notN x &&& y = partN x y 1 := rfl
  have hp2 : x &&& notN y = partN x y 2 := rfl
  have hp3 : x &&& y = partN x y 3 := rfl
  have ha0 := u64_and_nat (notN x) (notN y) hlx hly
  have ha1 := u64_and_nat (notN x) y hlx hby
  have ha2 := u64_and_nat x (notN y) hbx hly
  have ha3 := u64_and_nat x y hbx hby
  rw [hp0] at ha0
  rw [hp1] at ha1
  rw [hp2] at ha2
  rw [hp3] at ha3
  have hpl := partN_lt x y hbx
  have hbn : binN op x y = bwL op (partN x y) 4 := rfl
  rw [hbn]
  generalize partN x y = pL at ha0 ha1 ha2 ha3 hpl ⊢
  have hbw := bwL_lt (op := op) hpl
  have HBW := Lib.hid hbw
  have HPL := Lib.hid hpl
  generalize notN x = nx at hxorx ha0 ha1 hlx
  generalize notN y = ny at hxory ha0 ha2 hly
  clear hxa hxb hbw hpl hp0 hp1 hp2 hp3 hbn
  go_enter Try.func71, Try.ntmps71
  go_upto_region 1 with fail
  refine wp_quiet (by kernel_rfl) (by kernel_rfl) ?_
  repeat (any_goals (first | go_big_quiet_step (fail) | quiet_step (fail)))
  refine wpQuiet_nil ?_
  rintro wz ⟨q, hq⟩
  have hsz : Same w wz := by rw [hq]; exact more_same _ q
  have hcoz := (hsz.cell (World.block_lt_of_cell? w _ hco) id).trans hco
  clear hq hco hca hcb hca1 hcb1 hbla hblb
  have HSZ := Lib.hid hsz
  clear hsz
  go_upto_region 4 with fail
  refine wp_world fun w4 hw4 => ?_
  have hs4 : Same wz w4 := by rw [hw4]; exact (Frm.refl _ _).alloc _
  have hB4 : Blk w4 wz.heap.size 38 #[.int .u64 (pL 0 : Nat), .int .u64 (pL 1 : Nat), .int .u64 (pL 2 : Nat), .int .u64 (pL 3 : Nat)] := by rw [hw4]; exact Blk.new _ _ _
  have hco4 := (hs4.cell (World.block_lt_of_cell? wz _ hcoz) id).trans hcoz
  have hcell : ∀ m, m < 4 → w4.cell? ⟨wz.heap.size, m, none⟩ = some (.int .u64 (pL m : Nat)) := fun m hm => by
    rw [hB4.cell m]
    obtain rfl | rfl | rfl | rfl : m = 0 ∨ m = 1 ∨ m = 2 ∨ m = 3 := by omega
    all_goals rfl
  have HCL := Lib.hid hcell
  have HS4 := Lib.hid (HSZ.out.trans hs4 (fun _ _ h => h))
  clear hw4 hs4 hB4 hcell hcoz ha0 ha1 ha2 ha3 hxorx hxory hsg
  go_loopw [8, 39] (fun s i wr => ∃ m : Nat, m ≤ 4 ∧ i = .int .i64 m ∧ s = .int .u64 (bwL op pL m : Nat) ∧ w4 = wr) (fun _ i _ => 4 - (intOf i).toNat)
  case atStart => exact ⟨0, by omega, rfl, rfl, rfl⟩
  case round =>
    obtain ⟨m, hm, rfl, rfl, rfl⟩ := hrel
    by_cases hlt : m < 4
    · have hm1 : (m : Int) < 4 := by omega
      have hm0 : (0 : Int) ≤ m := by omega
      have hcm := HCL.out m hlt
      have hu8 := u8_shift op m hop
      have hdm := testBit_dm op m
      have hnx : bwL op pL (m + 1) = if op.testBit m then bwL op pL m ||| pL m else bwL op pL m := rfl
      have hor := u64_or_nat (bwL op pL m) (pL m) (HBW.out m) (HPL.out m)
      cases ho : op.testBit m with
      | true =>
        have h1 : op / 2 ^ m % 2 = 1 := by rw [ho] at hdm; simpa using hdm.symm
        rw [h1] at hu8
        rw [ho, if_pos rfl] at hnx
        rw [← hnx] at hor
        have hu8' : bits .and .u8 ((op : Int) / 2 ^ m) 1 = 1 := hu8
        have HNX := Lib.hid hnx
        clear hdm ho h1 hnx hu8
        go_wp2
        go_roundw
        case rel => exact ⟨m + 1, by omega, by go_num, rfl, trivial⟩
        case measure => simp [intOf]; omega
      | false =>
        have h1 : op / 2 ^ m % 2 = 0 := by
          rw [ho] at hdm
          have h2 : ¬ op / 2 ^ m % 2 = 1 := by simpa using hdm.symm
          omega
        rw [h1] at hu8
        rw [ho, if_neg (by decide)] at hnx
        have hu8' : bits .and .u8 ((op : Int) / 2 ^ m) 1 = 0 := hu8
        have HNX := Lib.hid hnx
        clear hdm ho h1 hnx hu8 hor
        go_wp2
        go_roundw
        case rel => exact ⟨m + 1, by omega, by go_num, by rw [HNX.out], trivial⟩
        case measure => simp [intOf]; omega
    · obtain rfl : m = 4 := by omega
      go_wp2
      go_ret
      exact ⟨rfl, HS4.out⟩
end Go.Proofs.Ytlggmoghgoeiiaa


/- Truth tables: Binary of the program. -/
namespace Go.Proofs.Ytlggmoghgoeiiaa
open Go.RowKit Go.Tk

def binE (op : Nat) (fr : Bool) : Int := if 15 < op then 1 else fmE fr
def binF (op : Nat) (wsa wsb : List Nat) : Nat → Bool := fun i => op.testBit ((if vb wsa i then 2 else 0) + (if vb wsb i then 1 else 0))
theorem fm_two {Na Nb : Int} {Aa Ab : Option Addr} {Ca Cb : Nat} {wsa wsb : List Nat} (h : fm [⟨Na, Aa, Ca, wsa⟩, ⟨Nb, Ab, Cb, wsb⟩] = true) : ∃ n : Nat, Na = n ∧ Nb = n ∧ FormN n wsa ∧ FormN n wsb := by
  simp [fm, Tb.frm] at h
  obtain ⟨n, rfl, h1⟩ := frm_true h.1
  have h2 := h.2.1
  rw [h.2.2] at h2
  exact ⟨n, rfl, h.2.2, h1, frm_nat.1 h2⟩
theorem getD_of {ws : List Nat} {k x : Nat} (h : ws[k]? = some x) : ws.getD k 0 = x := by rw [List.getD_eq_getElem?_getD, h]; rfl
set_option maxHeartbeats 4000000 in
theorem Binary_any (op : Nat) (Na : Int) (Aa : Option Addr) (Ca : Nat) (wsa : List Nat) (Nb : Int) (Ab : Option Addr) (Cb : Nat) (wsb : List Nat) (w : World) (hop : op < 256) (ha : TbOk w ⟨Na, Aa, Ca, wsa⟩) (hb : TbOk w ⟨Nb, Ab, Cb, wsb⟩) :
    Calls Try.prog 31 #[.int .u8 op, .agg #[.int .i64 Na, .slice Aa wsa.length Ca], .agg #[.int .i64 Nb, .slice Ab wsb.length Cb]] w (RetA w Na (tab Na.toNat (binF op wsa wsb)) (binE op (fm [⟨Na, Aa, Ca, wsa⟩, ⟨Nb, Ab, Cb, wsb⟩]))) := by
  have hmf : ∀ (fn : Fn) (first cap : Array Value) (w : World), (Instr.makeFunc fn first cap).run Try.prog w = .ok (.func fn first cap) w := fun _ _ _ _ => rfl
  have Ha := Lib.hid ha
  have Hb := Lib.hid hb
  clear ha hb
  by_cases h15 : 15 < op
  · have h15' : (op : Int) > 15 := by omega
    unfold RetA
    unfold binE
    rw [if_pos h15, show ansN Na 1 = 0 from rfl, show ansL (tab Na.toNat (binF op wsa wsb)) 1 = [] from rfl]
    clear h15 hmf
    go_enter Try.func31, Try.ntmps31
    go_upto_region 1 with fail
    refine wp_world fun w1 hw1 => ?_
    have hs1 : Same w w1 := by rw [hw1]; exact ((((Frm.refl _ _).alloc _).alloc _).alloc _).alloc _
    have hBO : Blk w1 (w.heap.size) 5 #[.int .u8 op] := by
      rw [hw1]
      have := ((((Blk.new w 5 #[.int .u8 op]).alloc (.cells #[.int .i64 Na, .slice Aa wsa.length Ca] 24)).alloc (.cells #[.int .i64 Nb, .slice Ab wsb.length Cb] 24)).alloc (.cells #[.int .i64 0, .slice none 0 0] 24))
      simpa using this
    have hBXa : Blk w1 (w.heap.size + 1) 24 #[.int .i64 Na, .slice Aa wsa.length Ca] := by
      rw [hw1]
      have := (((Blk.new (w.alloc (.cells #[.int .u8 op] 5)) 24 #[.int .i64 Na, .slice Aa wsa.length Ca]).alloc (.cells #[.int .i64 Nb, .slice Ab wsb.length Cb] 24)).alloc (.cells #[.int .i64 0, .slice none 0 0] 24))
      simpa using this
    have hBXb : Blk w1 (w.heap.size + 1 + 1) 24 #[.int .i64 Nb, .slice Ab wsb.length Cb] := by
      rw [hw1]
      have := ((Blk.new ((w.alloc (.cells #[.int .u8 op] 5)).alloc (.cells #[.int .i64 Na, .slice Aa wsa.length Ca] 24)) 24 #[.int .i64 Nb, .slice Ab wsb.length Cb]).alloc (.cells #[.int .i64 0, .slice none 0 0] 24))
      simpa using this
    have hBR : Blk w1 (w.heap.size + 1 + 1 + 1) 24 #[.int .i64 0, .slice none 0 0] := by
      rw [hw1]
      have := (Blk.new (((w.alloc (.cells #[.int .u8 op] 5)).alloc (.cells #[.int .i64 Na, .slice Aa wsa.length Ca] 24)).alloc (.cells #[.int .i64 Nb, .slice Ab wsb.length Cb] 24)) 24 #[.int .i64 0, .slice none 0 0])
      simpa using this
    clear hw1
    obtain ⟨R, hR⟩ : ∃ b, w.heap.size + 1 + 1 + 1 = b := ⟨_, rfl⟩
    rw [hR] at hBR ⊢
    obtain ⟨Xb, hXb⟩ : ∃ b, w.heap.size + 1 + 1 = b := ⟨_, rfl⟩
    rw [hXb] at hBXb ⊢
    obtain ⟨Xa, hXa⟩ : ∃ b, w.heap.size + 1 = b := ⟨_, rfl⟩
    rw [hXa] at hBXa ⊢
    have leXa : w.heap.size ≤ Xa := by omega
    have leXb : w.heap.size ≤ Xb := by omega
    have leR : w.heap.size ≤ R := by omega
    have neOXa : w.heap.size ≠ Xa := by omega
    have neOXb : w.heap.size ≠ Xb := by omega
    have neOR : w.heap.size ≠ R := by omega
    have neXaXb : Xa ≠ Xb := by omega
    have neXaR : Xa ≠ R := by omega
    have neXbR : Xb ≠ R := by omega
    clear hXa hXb hR
    have cO0 : w1.cell? ⟨w.heap.size, 0, none⟩ = some (.int .u8 op) := hBO.cell 0
    have lO := hBO.lt
    have fO0 := hBO.free 0
    have HBO := Lib.hid hBO
    have cXa0 : w1.cell? ⟨Xa, 0, none⟩ = some (.int .i64 Na) := hBXa.cell 0
    have cXa1 : w1.cell? ⟨Xa, 1, none⟩ = some (.slice Aa wsa.length Ca) := hBXa.cell 1
    have lXa := hBXa.lt
    have fXa0 := hBXa.free 0
    have fXa1 := hBXa.free 1
    have HBXa := Lib.hid hBXa
    have cXb0 : w1.cell? ⟨Xb, 0, none⟩ = some (.int .i64 Nb) := hBXb.cell 0
    have cXb1 : w1.cell? ⟨Xb, 1, none⟩ = some (.slice Ab wsb.length Cb) := hBXb.cell 1
    have lXb := hBXb.lt
    have fXb0 := hBXb.free 0
    have fXb1 := hBXb.free 1
    have HBXb := Lib.hid hBXb
    have cR0 : w1.cell? ⟨R, 0, none⟩ = some (.int .i64 0) := hBR.cell 0
    have cR1 : w1.cell? ⟨R, 1, none⟩ = some (.slice none 0 0) := hBR.cell 1
    have lR := hBR.lt
    have fR0 := hBR.free 0
    have fR1 := hBR.free 1
    have HBR := Lib.hid hBR
    have HS1 := Lib.hid hs1
    clear hs1 hBO hBXa hBXb hBR
    have HOKa := Lib.hid (Ha.out.same HS1.out)
    have HOKb := Lib.hid (Hb.out.same HS1.out)
    go_wp2
    refine wp_post fun we hwe => ?_
    have hBE : Blk we R 24 #[.int .i64 0, .slice none 0 0] := by
      rw [hwe]
      have := (HBR.out.set 0 (.int .i64 0)).set 1 (.slice none 0 0)
      simpa using this
    have hSE : Same w we := by rw [hwe]; exact (HS1.out.setNew 0 _ leR).setNew 1 _ leR
    have hr0 : we.cell? ⟨R, 0, none⟩ = some (.int .i64 0) := hBE.cell 0
    have hr1 : we.cell? ⟨R, 1, none⟩ = some (.slice none 0 0) := hBE.cell 1
    clear hwe hBE
    refine bodyPost_ret (v := .tuple #[.agg #[.int .i64 0, .slice none 0 0], .int .i64 1]) (by simp [results, Try.results31, go_sem, hr0, hr1]) rfl ?_
    exact ⟨none, 0, rfl, NewT.nil hSE⟩
  have h15' : ¬ (op : Int) > 15 := by omega
  unfold binE
  rw [if_neg h15]
  clear h15
  cases hfr : fm [⟨Na, Aa, Ca, wsa⟩, ⟨Nb, Ab, Cb, wsb⟩] with
  | false =>
    unfold RetA
    rw [show fmE false = 5 from rfl, show ansN Na 5 = 0 from rfl, show ansL (tab Na.toNat (binF op wsa wsb)) 5 = [] from rfl]
    have HFM := Lib.hid hfr
    clear hfr hmf
    go_enter Try.func31, Try.ntmps31
    go_upto_region 1 with fail
    refine wp_world fun w1 hw1 => ?_
    have hs1 : Same w w1 := by rw [hw1]; exact ((((Frm.refl _ _).alloc _).alloc _).alloc _).alloc _
    have hBO : Blk w1 (w.heap.size) 5 #[.int .u8 op] := by
      rw [hw1]
      have := ((((Blk.new w 5 #[.int .u8 op]).alloc (.cells #[.int .i64 Na, .slice Aa wsa.length Ca] 24)).alloc (.cells #[.int .i64 Nb, .slice Ab wsb.length Cb] 24)).alloc (.cells #[.int .i64 0, .slice none 0 0] 24))
      simpa using this
    have hBXa : Blk w1 (w.heap.size + 1) 24 #[.int .i64 Na, .slice Aa wsa.length Ca] := by
      rw [hw1]
      have := (((Blk.new (w.alloc (.cells #[.int .u8 op] 5)) 24 #[.int .i64 Na, .slice Aa wsa.length Ca]).alloc (.cells #[.int .i64 Nb, .slice Ab wsb.length Cb] 24)).alloc (.cells #[.int .i64 0, .slice none 0 0] 24))
      simpa using this
    have hBXb : Blk w1 (w.heap.size + 1 + 1) 24 #[.int .i64 Nb, .slice Ab wsb.length Cb] := by
      rw [hw1]
      have := ((Blk.new ((w.alloc (.cells #[.int .u8 op] 5)).alloc (.cells #[.int .i64 Na, .slice Aa wsa.length Ca] 24)) 24 #[.int .i64 Nb, .slice Ab wsb.length Cb]).alloc (.cells #[.int .i64 0, .slice none 0 0] 24))
      simpa using this
    have hBR : Blk w1 (w.heap.size + 1 + 1 + 1) 24 #[.int .i64 0, .slice none 0 0] := by
      rw [hw1]
      have := (Blk.new (((w.alloc (.cells #[.int .u8 op] 5)).alloc (.cells #[.int .i64 Na, .slice Aa wsa.length Ca] 24)).alloc (.cells #[.int .i64 Nb, .slice Ab wsb.length Cb] 24)) 24 #[.int .i64 0, .slice none 0 0])
      simpa using this
    clear hw1
    obtain ⟨R, hR⟩ : ∃ b, w.heap.size + 1 + 1 + 1 = b := ⟨_, rfl⟩
    rw [hR] at hBR ⊢
    obtain ⟨Xb, hXb⟩ : ∃ b, w.heap.size + 1 + 1 = b := ⟨_, rfl⟩
    rw [hXb] at hBXb ⊢
    obtain ⟨Xa, hXa⟩ : ∃ b, w.heap.size + 1 = b := ⟨_, rfl⟩
    rw [hXa] at hBXa ⊢
    have leXa : w.heap.size ≤ Xa := by omega
    have leXb : w.heap.size ≤ Xb := by omega
    have leR : w.heap.size ≤ R := by omega
    have neOXa : w.heap.size ≠ Xa := by omega
    have neOXb : w.heap.size ≠ Xb := by omega
    have neOR : w.heap.size ≠ R := by omega
    have neXaXb : Xa ≠ Xb := by omega
    have neXaR : Xa ≠ R := by omega
    have neXbR : Xb ≠ R := by omega
    clear hXa hXb hR
    have cO0 : w1.cell? ⟨w.heap.size, 0, none⟩ = some (.int .u8 op) := hBO.cell 0
    have lO := hBO.lt
    have fO0 := hBO.free 0
    have HBO := Lib.hid hBO
    have cXa0 : w1.cell? ⟨Xa, 0, none⟩ = some (.int .i64 Na) := hBXa.cell 0
    have cXa1 : w1.cell? ⟨Xa, 1, none⟩ = some (.slice Aa wsa.length Ca) := hBXa.cell 1
    have lXa := hBXa.lt
    have fXa0 := hBXa.free 0
    have fXa1 := hBXa.free 1
    have HBXa := Lib.hid hBXa
    have cXb0 : w1.cell? ⟨Xb, 0, none⟩ = some (.int .i64 Nb) := hBXb.cell 0
    have cXb1 : w1.cell? ⟨Xb, 1, none⟩ = some (.slice Ab wsb.length Cb) := hBXb.cell 1
    have lXb := hBXb.lt
    have fXb0 := hBXb.free 0
    have fXb1 := hBXb.free 1
    have HBXb := Lib.hid hBXb
    have cR0 : w1.cell? ⟨R, 0, none⟩ = some (.int .i64 0) := hBR.cell 0
    have cR1 : w1.cell? ⟨R, 1, none⟩ = some (.slice none 0 0) := hBR.cell 1
    have lR := hBR.lt
    have fR0 := hBR.free 0
    have fR1 := hBR.free 1
    have HBR := Lib.hid hBR
    have HS1 := Lib.hid hs1
    clear hs1 hBO hBXa hBXb hBR
    have HOKa := Lib.hid (Ha.out.same HS1.out)
    have HOKb := Lib.hid (Hb.out.same HS1.out)
    go_wp2_with (fail)
    refine call_world fun w2 hw2 => ?_
    have hs2 : Same w1 w2 := by rw [hw2]; exact (Frm.refl _ _).alloc _
    have hBL : Blk w2 w1.heap.size 24 #[.int .i64 Na, .slice Aa wsa.length Ca, .int .i64 Nb, .slice Ab wsb.length Cb] := by rw [hw2]; exact Blk.new _ _ _
    have htbs : Tbs w2 w1.heap.size [⟨Na, Aa, Ca, wsa⟩, ⟨Nb, Ab, Cb, wsb⟩] := by
      intro i t hi
      match i, hi with
      | 0, hi =>
        simp only [List.getElem?_cons_zero, Option.some.injEq] at hi
        subst hi
        exact ⟨hBL.lt, hBL.cell 0, hBL.cell 1⟩
      | 1, hi =>
        simp only [List.getElem?_cons_zero, List.getElem?_cons_succ, Option.some.injEq] at hi
        subst hi
        exact ⟨hBL.lt, hBL.cell 2, hBL.cell 3⟩
      | i + 2, hi => simp at hi
    have hfc := form_any w1.heap.size 2 2 [⟨Na, Aa, Ca, wsa⟩, ⟨Nb, Ab, Cb, wsb⟩] w2 rfl (by decide) htbs (fun t ht => by
      simp only [List.mem_cons, List.not_mem_nil, or_false] at ht
      rcases ht with rfl | rfl
      · exact (HOKa.out).same hs2
      · exact (HOKb.out).same hs2)
    rw [HFM.out] at hfc
    refine hfc.mono ?_
    clear hfc htbs hBL hw2
    rintro e w3 ⟨rfl, hs3⟩
    have hs13 : Same w1 w3 := hs2.trans hs3 (fun _ _ h => h)
    clear hs2 hs3
    replace HBO := Lib.hid (HBO.out.frm hs13 id)
    replace cO0 : w3.cell? ⟨w.heap.size, 0, none⟩ = some (.int .u8 op) := HBO.out.cell 0
    replace lO := HBO.out.lt
    replace fO0 := HBO.out.free 0
    replace HBXa := Lib.hid (HBXa.out.frm hs13 id)
    replace cXa0 : w3.cell? ⟨Xa, 0, none⟩ = some (.int .i64 Na) := HBXa.out.cell 0
    replace cXa1 : w3.cell? ⟨Xa, 1, none⟩ = some (.slice Aa wsa.length Ca) := HBXa.out.cell 1
    replace lXa := HBXa.out.lt
    replace fXa0 := HBXa.out.free 0
    replace fXa1 := HBXa.out.free 1
    replace HBXb := Lib.hid (HBXb.out.frm hs13 id)
    replace cXb0 : w3.cell? ⟨Xb, 0, none⟩ = some (.int .i64 Nb) := HBXb.out.cell 0
    replace cXb1 : w3.cell? ⟨Xb, 1, none⟩ = some (.slice Ab wsb.length Cb) := HBXb.out.cell 1
    replace lXb := HBXb.out.lt
    replace fXb0 := HBXb.out.free 0
    replace fXb1 := HBXb.out.free 1
    replace HBR := Lib.hid (HBR.out.frm hs13 id)
    replace cR0 : w3.cell? ⟨R, 0, none⟩ = some (.int .i64 0) := HBR.out.cell 0
    replace cR1 : w3.cell? ⟨R, 1, none⟩ = some (.slice none 0 0) := HBR.out.cell 1
    replace lR := HBR.out.lt
    replace fR0 := HBR.out.free 0
    replace fR1 := HBR.out.free 1
    replace HS1 := Lib.hid (HS1.out.trans hs13 (fun _ _ h => h))
    clear hs13
    go_wp2
    refine wp_post fun we hwe => ?_
    have hBE : Blk we R 24 #[.int .i64 0, .slice none 0 0] := by
      rw [hwe]
      have := (HBR.out.set 0 (.int .i64 0)).set 1 (.slice none 0 0)
      simpa using this
    have hSE : Same w we := by rw [hwe]; exact (HS1.out.setNew 0 _ leR).setNew 1 _ leR
    have hr0 : we.cell? ⟨R, 0, none⟩ = some (.int .i64 0) := hBE.cell 0
    have hr1 : we.cell? ⟨R, 1, none⟩ = some (.slice none 0 0) := hBE.cell 1
    clear hwe hBE
    refine bodyPost_ret (v := .tuple #[.agg #[.int .i64 0, .slice none 0 0], .int .i64 5]) (by simp [results, Try.results31, go_sem, hr0, hr1]) rfl ?_
    exact ⟨none, 0, rfl, NewT.nil hSE⟩
  | true =>
    obtain ⟨n, rfl, rfl, hfa, hfb⟩ := fm_two hfr
    unfold RetA
    rw [show fmE true = 0 from rfl, show ansN n 0 = n from rfl, show ansL (tab (n : Int).toNat (binF op wsa wsb)) 0 = tab n (binF op wsa wsb) from rfl]
    have HFM := Lib.hid hfr
    have hn := hfa.n16
    have hsa := Ha.out.small
    have hsb := Hb.out.small
    have HTB := Lib.hid (laid_tab (n := n) (g := fun i => binN op (wsa.getD i 0) (wsb.getD i 0)) (F := binF op wsa wsb) fun k hk j hj _ => by
      obtain ⟨x, hx⟩ : ∃ x, wsa[k]? = some x := ⟨_, List.getElem?_eq_getElem (by rw [hfa.len]; exact hk)⟩
      obtain ⟨y, hy⟩ : ∃ y, wsb[k]? = some y := ⟨_, List.getElem?_eq_getElem (by rw [hfb.len]; exact hk)⟩
      rw [getD_of hx, getD_of hy, binN_bit (hsa.at1 hx) (hsb.at1 hy) hj]
      unfold binF
      rw [vb_word hx hj, vb_word hy hj])
    have HLa := Lib.hid hfa.len
    have HLb := Lib.hid hfb.len
    have HSa := Lib.hid hsa
    have HSb := Lib.hid hsb
    clear hfr hfa hfb hsa hsb
    have hen : ∀ (args : Array Value) (w : World), (callFunc 71 args).run Try.prog w = .ok (.enter 71 args) w := enters_of Try.func71 (by kernel_rfl) rfl
    have HEN := Lib.hid hen
    clear hen
    go_enter Try.func31, Try.ntmps31
    go_upto_region 1 with fail
    refine wp_world fun w1 hw1 => ?_
    have hs1 : Same w w1 := by rw [hw1]; exact ((((Frm.refl _ _).alloc _).alloc _).alloc _).alloc _
    have hBO : Blk w1 (w.heap.size) 5 #[.int .u8 op] := by
      rw [hw1]
      have := ((((Blk.new w 5 #[.int .u8 op]).alloc (.cells #[.int .i64 n, .slice Aa wsa.length Ca] 24)).alloc (.cells #[.int .i64 n, .slice Ab wsb.length Cb] 24)).alloc (.cells #[.int .i64 0, .slice none 0 0] 24))
      simpa using this
    have hBXa : Blk w1 (w.heap.size + 1) 24 #[.int .i64 n, .slice Aa wsa.length Ca] := by
      rw [hw1]
      have := (((Blk.new (w.alloc (.cells #[.int .u8 op] 5)) 24 #[.int .i64 n, .slice Aa wsa.length Ca]).alloc (.cells #[.int .i64 n, .slice Ab wsb.length Cb] 24)).alloc (.cells #[.int .i64 0, .slice none 0 0] 24))
      simpa using this
    have hBXb : Blk w1 (w.heap.size + 1 + 1) 24 #[.int .i64 n, .slice Ab wsb.length Cb] := by
      rw [hw1]
      have := ((Blk.new ((w.alloc (.cells #[.int .u8 op] 5)).alloc (.cells #[.int .i64 n, .slice Aa wsa.length Ca] 24)) 24 #[.int .i64 n, .slice Ab wsb.length Cb]).alloc (.cells #[.int .i64 0, .slice none 0 0] 24))
      simpa using this
    have hBR : Blk w1 (w.heap.size + 1 + 1 + 1) 24 #[.int .i64 0, .slice none 0 0] := by
      rw [hw1]
      have := (Blk.new (((w.alloc (.cells #[.int .u8 op] 5)).alloc (.cells #[.int .i64 n, .slice Aa wsa.length Ca] 24)).alloc (.cells #[.int .i64 n, .slice Ab wsb.length Cb] 24)) 24 #[.int .i64 0, .slice none 0 0])
      simpa using this
    clear hw1
    obtain ⟨R, hR⟩ : ∃ b, w.heap.size + 1 + 1 + 1 = b := ⟨_, rfl⟩
    rw [hR] at hBR ⊢
    obtain ⟨Xb, hXb⟩ : ∃ b, w.heap.size + 1 + 1 = b := ⟨_, rfl⟩
    rw [hXb] at hBXb ⊢
    obtain ⟨Xa, hXa⟩ : ∃ b, w.heap.size + 1 = b := ⟨_, rfl⟩
    rw [hXa] at hBXa ⊢
    have leXa : w.heap.size ≤ Xa := by omega
    have leXb : w.heap.size ≤ Xb := by omega
    have leR : w.heap.size ≤ R := by omega
    have neOXa : w.heap.size ≠ Xa := by omega
    have neOXb : w.heap.size ≠ Xb := by omega
    have neOR : w.heap.size ≠ R := by omega
    have neXaXb : Xa ≠ Xb := by omega
    have neXaR : Xa ≠ R := by omega
    have neXbR : Xb ≠ R := by omega
    clear hXa hXb hR
    have cO0 : w1.cell? ⟨w.heap.size, 0, none⟩ = some (.int .u8 op) := hBO.cell 0
    have lO := hBO.lt
    have fO0 := hBO.free 0
    have HBO := Lib.hid hBO
    have cXa0 : w1.cell? ⟨Xa, 0, none⟩ = some (.int .i64 n) := hBXa.cell 0
    have cXa1 : w1.cell? ⟨Xa, 1, none⟩ = some (.slice Aa wsa.length Ca) := hBXa.cell 1
    have lXa := hBXa.lt
    have fXa0 := hBXa.free 0
    have fXa1 := hBXa.free 1
    have HBXa := Lib.hid hBXa
    have cXb0 : w1.cell? ⟨Xb, 0, none⟩ = some (.int .i64 n) := hBXb.cell 0
    have cXb1 : w1.cell? ⟨Xb, 1, none⟩ = some (.slice Ab wsb.length Cb) := hBXb.cell 1
    have lXb := hBXb.lt
    have fXb0 := hBXb.free 0
    have fXb1 := hBXb.free 1
    have HBXb := Lib.hid hBXb
    have cR0 : w1.cell? ⟨R, 0, none⟩ = some (.int .i64 0) := hBR.cell 0
    have cR1 : w1.cell? ⟨R, 1, none⟩ = some (.slice none 0 0) := hBR.cell 1
    have lR := hBR.lt
    have fR0 := hBR.free 0
    have fR1 := hBR.free 1
    have HBR := Lib.hid hBR
    have HS1 := Lib.hid hs1
    clear hs1 hBO hBXa hBXb hBR
    have HOKa := Lib.hid (Ha.out.same HS1.out)
    have HOKb := Lib.hid (Hb.out.same HS1.out)
    go_wp2_with (fail)
    refine call_world fun w2 hw2 => ?_
    have hs2 : Same w1 w2 := by rw [hw2]; exact (Frm.refl _ _).alloc _
    have hBL : Blk w2 w1.heap.size 24 #[.int .i64 n, .slice Aa wsa.length Ca, .int .i64 n, .slice Ab wsb.length Cb] := by rw [hw2]; exact Blk.new _ _ _
    have htbs : Tbs w2 w1.heap.size [⟨n, Aa, Ca, wsa⟩, ⟨n, Ab, Cb, wsb⟩] := by
      intro i t hi
      match i, hi with
      | 0, hi =>
        simp only [List.getElem?_cons_zero, Option.some.injEq] at hi
        subst hi
        exact ⟨hBL.lt, hBL.cell 0, hBL.cell 1⟩
      | 1, hi =>
        simp only [List.getElem?_cons_zero, List.getElem?_cons_succ, Option.some.injEq] at hi
        subst hi
        exact ⟨hBL.lt, hBL.cell 2, hBL.cell 3⟩
      | i + 2, hi => simp at hi
    have hfc := form_any w1.heap.size 2 2 [⟨n, Aa, Ca, wsa⟩, ⟨n, Ab, Cb, wsb⟩] w2 rfl (by decide) htbs (fun t ht => by
      simp only [List.mem_cons, List.not_mem_nil, or_false] at ht
      rcases ht with rfl | rfl
      · exact (HOKa.out).same hs2
      · exact (HOKb.out).same hs2)
    rw [HFM.out] at hfc
    refine hfc.mono ?_
    clear hfc htbs hBL hw2
    rintro e w3 ⟨rfl, hs3⟩
    have hs13 : Same w1 w3 := hs2.trans hs3 (fun _ _ h => h)
    clear hs2 hs3
    replace HBO := Lib.hid (HBO.out.frm hs13 id)
    replace cO0 : w3.cell? ⟨w.heap.size, 0, none⟩ = some (.int .u8 op) := HBO.out.cell 0
    replace lO := HBO.out.lt
    replace fO0 := HBO.out.free 0
    replace HBXa := Lib.hid (HBXa.out.frm hs13 id)
    replace cXa0 : w3.cell? ⟨Xa, 0, none⟩ = some (.int .i64 n) := HBXa.out.cell 0
    replace cXa1 : w3.cell? ⟨Xa, 1, none⟩ = some (.slice Aa wsa.length Ca) := HBXa.out.cell 1
    replace lXa := HBXa.out.lt
    replace fXa0 := HBXa.out.free 0
    replace fXa1 := HBXa.out.free 1
    replace HBXb := Lib.hid (HBXb.out.frm hs13 id)
    replace cXb0 : w3.cell? ⟨Xb, 0, none⟩ = some (.int .i64 n) := HBXb.out.cell 0
    replace cXb1 : w3.cell? ⟨Xb, 1, none⟩ = some (.slice Ab wsb.length Cb) := HBXb.out.cell 1
    replace lXb := HBXb.out.lt
    replace fXb0 := HBXb.out.free 0
    replace fXb1 := HBXb.out.free 1
    replace HBR := Lib.hid (HBR.out.frm hs13 id)
    replace cR0 : w3.cell? ⟨R, 0, none⟩ = some (.int .i64 0) := HBR.out.cell 0
    replace cR1 : w3.cell? ⟨R, 1, none⟩ = some (.slice none 0 0) := HBR.out.cell 1
    replace lR := HBR.out.lt
    replace fR0 := HBR.out.free 0
    replace fR1 := HBR.out.free 1
    replace HS1 := Lib.hid (HS1.out.trans hs13 (fun _ _ h => h))
    clear hs13
    have htl : Tells w3 n 71 #[.pointer (some ⟨Xa, 0, none⟩), .pointer (some ⟨Xb, 0, none⟩), .pointer (some ⟨w.heap.size, 0, none⟩)] (fun i => binN op (wsa.getD i 0) (wsb.getD i 0)) := fun i hi => ⟨bwL_lt (partN_lt _ _ (by have hil : i < wsa.length := (by rw [HLa.out]; exact hi); rw [List.getD_eq_getElem?_getD, List.getElem?_eq_getElem hil]; exact HSa.out _ (List.getElem_mem hil))) 4, fun w' hs' => by
      refine (binary1_any i Xa Xb w.heap.size op w' Aa Ca wsa (by rw [HLa.out]; exact hi) (Sl.same (Sl.same Ha.out.wl HS1.out) hs') HSa.out ((hs'.cell (p := ⟨Xa, 1, none⟩) lXa id).trans cXa1) Ab Cb wsb (by rw [HLb.out]; exact hi) (Sl.same (Sl.same Hb.out.wl HS1.out) hs') HSb.out ((hs'.cell (p := ⟨Xb, 1, none⟩) lXb id).trans cXb1) hop ((hs'.cell (p := ⟨w.heap.size, 0, none⟩) lO id).trans cO0)).mono ?_
      exact fun e w'' h => h⟩
    have HTL := Lib.hid htl
    clear htl
    go_wp2_with (fail)
    refine (laid_any n 71 #[.pointer (some ⟨Xa, 0, none⟩), .pointer (some ⟨Xb, 0, none⟩), .pointer (some ⟨w.heap.size, 0, none⟩)] (fun i => binN op (wsa.getD i 0) (wsb.getD i 0)) w3 hn HEN.out HTL.out).mono ?_
    rintro e w4 ⟨Aq, Cq, rfl, hNT⟩
    rw [HTB.out] at hNT ⊢
    have hoq := hNT.1
    have hfq := hNT.2.1
    have hsq := hNT.2.2
    have hRq : ∀ a, Aq = some a → a.block ≠ R := fun a ha h => by
      have := hfq a.block ⟨a, ha, rfl⟩
      omega
    have HBRq := Lib.hid (HBR.out.frm hsq id)
    have HSq := Lib.hid (HS1.out.trans hsq (fun _ _ h => h))
    have hfq' : Fresh w.heap.size Aq := fun b hb => by have := hfq b hb; have := HS1.out.size; omega
    have HOQ := Lib.hid hoq
    have HFQ := Lib.hid hfq'
    have hcR0 : w4.cell? ⟨R, 0, none⟩ = some (.int .i64 0) := HBRq.out.cell 0
    have hcR1 : w4.cell? ⟨R, 1, none⟩ = some (.slice none 0 0) := HBRq.out.cell 1
    have hfR0 := HBRq.out.free 0
    have hfR1 := HBRq.out.free 1
    have hlR := HBRq.out.lt
    clear hNT hoq hfq hsq hfq'
    go_wp2
    refine wp_post fun we hwe => ?_
    have hBE : Blk we R 24 #[.int .i64 n, .slice Aq (tab n (binF op wsa wsb)).length Cq] := by
      rw [hwe]
      have := (HBRq.out.set 0 (.int .i64 n)).set 1 (.slice Aq (tab n (binF op wsa wsb)).length Cq)
      simpa using this
    have hSE : Same w we := by rw [hwe]; exact (HSq.out.setNew 0 _ leR).setNew 1 _ leR
    have hOE : OwnW we Aq (tab n (binF op wsa wsb)).length Cq (tab n (binF op wsa wsb)) := by
      rw [hwe]
      exact (Own.far (p := ⟨R, 0, none⟩) HOQ.out hRq _).far (p := ⟨R, 1, none⟩) hRq _
    have hr0 : we.cell? ⟨R, 0, none⟩ = some (.int .i64 n) := hBE.cell 0
    have hr1 : we.cell? ⟨R, 1, none⟩ = some (.slice Aq (tab n (binF op wsa wsb)).length Cq) := hBE.cell 1
    clear hwe hBE
    refine bodyPost_ret (v := .tuple #[.agg #[.int .i64 n, .slice Aq (tab n (binF op wsa wsb)).length Cq], .int .i64 0]) (by simp [results, Try.results31, go_sem, hr0, hr1]) rfl ?_
    exact ⟨Aq, Cq, rfl, hOE, HFQ.out, hSE⟩
end Go.Proofs.Ytlggmoghgoeiiaa


/- Truth tables: half's closure. -/
namespace Go.Proofs.Ytlggmoghgoeiiaa
open Go.RowKit Go.Tk

theorem and_clr {i k : Nat} (hi : i < 1024) (hp : 2 ^ k < 18446744073709551616) (j : Nat) : (i &&& (18446744073709551615 - 2 ^ k)).testBit j = if j = k then false else i.testBit j := by
  by_cases hj : j < 64
  · rw [Nat.testBit_and, not64_bit hp hj, Nat.testBit_two_pow]
    by_cases h : j = k
    · subst h; simp
    · rw [if_neg h]
      simp [show ¬ k = j by omega]
  · have h1 : i.testBit j = false := Nat.testBit_lt_two_pow (Nat.lt_of_lt_of_le hi (show 2 ^ 10 ≤ 2 ^ j from Nat.pow_le_pow_right (by omega) (by omega)))
    rw [Nat.testBit_and, h1]
    split <;> rfl
theorem or_set (i k : Nat) : wth i k false ||| 2 ^ k = wth i k true := wth_of fun j => by
  rw [Nat.testBit_or, wth_bit, Nat.testBit_two_pow]
  by_cases h : j = k
  · subst h; simp
  · rw [if_neg h, if_neg h]
    simp [show ¬ k = j by omega]
set_option maxHeartbeats 4000000 in
theorem half1_any (n i v Bv Bb Ba : Nat) (b : Bool) (A : Option Addr) (C : Nat) (ws : List Nat) (w : World) (hf : FormN n ws) (hi : i < nw n) (hv : v < n) (h : WL w A ws.length ws) (hb : Small ws)
    (hcv : w.cell? ⟨Bv, 0, none⟩ = some (.int .i64 v)) (hcb : w.cell? ⟨Bb, 0, none⟩ = some (.bool b)) (hca : w.cell? ⟨Ba, 1, none⟩ = some (.slice A ws.length C)) :
    Calls Try.prog 77 #[.int .i64 i, .pointer (some ⟨Bv, 0, none⟩), .pointer (some ⟨Bb, 0, none⟩), .pointer (some ⟨Ba, 0, none⟩)] w fun e w' => e = .returned (.int .u64 (halfN v b ws i : Nat)) ∧ Same w w' := by
  have hlBv : Bv < w.heap.size := World.block_lt_of_cell? w _ hcv
  have hlBb : Bb < w.heap.size := World.block_lt_of_cell? w _ hcb
  have hlBa : Ba < w.heap.size := World.block_lt_of_cell? w _ hca
  have hn := hf.n16
  have hnl := nw_le hn
  by_cases h6 : 6 ≤ v
  · have hil : wth i (v - 6) b < ws.length := by
      have h0 : nw n = 2 ^ (n - 6) := by
        unfold nw
        rw [if_neg (by omega)]
      rw [hf.len, h0]
      rw [h0] at hi
      exact wth_lt hi (by omega)
    have hpk2 : 2 ^ (v - 6) < 18446744073709551616 := Nat.lt_of_le_of_lt (Nat.pow_le_pow_right (show 0 < 2 by omega) (show v - 6 ≤ 10 by omega)) (by decide)
    cases b with
    | false =>
      obtain ⟨k, rfl⟩ : ∃ k, v = k + 6 := ⟨v - 6, by omega⟩
      rw [show k + 6 - 6 = k by omega] at hil hpk2
      obtain ⟨x, hx⟩ : ∃ x, ws[wth i k false]? = some x := ⟨_, List.getElem?_eq_getElem hil⟩
      have hxe : halfN (k + 6) false ws i = x := by
        unfold halfN
        rw [if_pos (by omega), show k + 6 - 6 = k by omega, getD_of hx]
      obtain ⟨b0, off, rfl, hbl, hc⟩ := h.at1 hx
      have hpk : 2 ^ k ≤ 2 ^ 9 := Nat.pow_le_pow_right (by omega) (by omega)
      have hand := i64_andNot_nat i (2 ^ k) (by omega) (by omega)
      have hor := i64_or_nat (i &&& (18446744073709551615 - 2 ^ k)) (2 ^ k) (Nat.lt_of_le_of_lt Nat.and_le_left (by omega)) (by omega)
      have hcl : i &&& (18446744073709551615 - 2 ^ k) = wth i k false := wth_of fun j => and_clr (by omega) hpk2 j
      have hst : wth i k false ||| 2 ^ k = wth i k true := or_set i k
      rw [hcl] at hand hor
      rw [hst] at hor
      have hwl : wth i k false < ws.length := hil
      have hsw : wrap64 ((2 : Int) ^ k) = ((2 ^ k : Nat) : Int) := by
        rw [pow_int]
        generalize 2 ^ k = p at hpk ⊢
        exact IntWalk.wrap64_in _ (by omega)
      have hsw2 : IntKind.i64.wrap ((2 : Int) ^ k) = ((2 ^ k : Nat) : Int) := by
        rw [pow_int]
        generalize 2 ^ k = p at hpk ⊢
        exact IntWalk.i64_in _ (by omega)
      rw [hxe]
      clear hxe hcl hst hpk2 hx
      generalize 2 ^ k = p at *
      generalize wth i k false = ix at *
      have hix0 : (0 : Int) ≤ ix := by omega
      have hix1 : (ix : Int) < ws.length := by omega
      have hcv' : w.cell? ⟨Bv, 0, none⟩ = some (.int .i64 ((k : Int) + 6)) := hcv
      have hk6 : (k : Int) + 6 ≥ 6 := by omega
      have hk7 : (k : Int) + 6 - 6 = k := by omega
      have hk8 : IntKind.i64.wrap ((k : Int) + 6 - 6) = k := by rw [IntWalk.i64_in _ (by omega)]; omega
      have hk9 : (0 : Int) ≤ k := by omega
      clear hcv
      go_enter Try.func77, Try.ntmps77
      go_wp2
      go_ret
      exact ⟨rfl, Frm.refl _ _⟩
    | true =>
      obtain ⟨k, rfl⟩ : ∃ k, v = k + 6 := ⟨v - 6, by omega⟩
      rw [show k + 6 - 6 = k by omega] at hil hpk2
      obtain ⟨x, hx⟩ : ∃ x, ws[wth i k true]? = some x := ⟨_, List.getElem?_eq_getElem hil⟩
      have hxe : halfN (k + 6) true ws i = x := by
        unfold halfN
        rw [if_pos (by omega), show k + 6 - 6 = k by omega, getD_of hx]
      obtain ⟨b0, off, rfl, hbl, hc⟩ := h.at1 hx
      have hpk : 2 ^ k ≤ 2 ^ 9 := Nat.pow_le_pow_right (by omega) (by omega)
      have hand := i64_andNot_nat i (2 ^ k) (by omega) (by omega)
      have hor := i64_or_nat (i &&& (18446744073709551615 - 2 ^ k)) (2 ^ k) (Nat.lt_of_le_of_lt Nat.and_le_left (by omega)) (by omega)
      have hcl : i &&& (18446744073709551615 - 2 ^ k) = wth i k false := wth_of fun j => and_clr (by omega) hpk2 j
      have hst : wth i k false ||| 2 ^ k = wth i k true := or_set i k
      rw [hcl] at hand hor
      rw [hst] at hor
      have hwl : wth i k true < ws.length := hil
      have hsw : wrap64 ((2 : Int) ^ k) = ((2 ^ k : Nat) : Int) := by
        rw [pow_int]
        generalize 2 ^ k = p at hpk ⊢
        exact IntWalk.wrap64_in _ (by omega)
      have hsw2 : IntKind.i64.wrap ((2 : Int) ^ k) = ((2 ^ k : Nat) : Int) := by
        rw [pow_int]
        generalize 2 ^ k = p at hpk ⊢
        exact IntWalk.i64_in _ (by omega)
      rw [hxe]
      clear hxe hcl hst hpk2 hx
      generalize 2 ^ k = p at *
      generalize wth i k true = ix at *
      have hix0 : (0 : Int) ≤ ix := by omega
      have hix1 : (ix : Int) < ws.length := by omega
      have hcv' : w.cell? ⟨Bv, 0, none⟩ = some (.int .i64 ((k : Int) + 6)) := hcv
      have hk6 : (k : Int) + 6 ≥ 6 := by omega
      have hk7 : (k : Int) + 6 - 6 = k := by omega
      have hk8 : IntKind.i64.wrap ((k : Int) + 6 - 6) = k := by rw [IntWalk.i64_in _ (by omega)]; omega
      have hk9 : (0 : Int) ≤ k := by omega
      clear hcv
      go_enter Try.func77, Try.ntmps77
      go_wp2
      go_ret
      exact ⟨rfl, Frm.refl _ _⟩
  · obtain ⟨x, hx⟩ : ∃ x, ws[i]? = some x := ⟨_, List.getElem?_eq_getElem (by rw [hf.len]; exact hi)⟩
    have hxe : halfN v b ws i = halfW v b x := by
      unfold halfN
      rw [if_neg h6, getD_of hx]
    obtain ⟨b0, off, rfl, hbl, hc⟩ := h.at1 hx
    have hxb := hb.at1 hx
    have hi0 : (0 : Int) ≤ i := by omega
    have hi1 : (i : Int) < ws.length := by rw [hf.len]; omega
    have hv6 : v < 6 := by omega
    have hcol : colN v 0 = bsum (fun j => j.testBit v) 64 := by unfold colN; rw [if_pos hv6]
    have hcc := fun w => column_any v 0 w (by omega) (by omega)
    have hcl : bsum (fun j => j.testBit v) 64 < 18446744073709551616 := bsum_lt _ 64
    have hs32 : 2 ^ v ≤ 2 ^ 5 := Nat.pow_le_pow_right (by omega) (by omega)
    rw [hxe]
    unfold halfW
    rw [hcol] at hcc
    generalize bsum (fun j => j.testBit v) 64 = c at hcc hcl ⊢
    have hsw : wrap64 ((2 : Int) ^ v) = ((2 ^ v : Nat) : Int) := by
      rw [pow_int]
      generalize 2 ^ v = p at hs32 ⊢
      exact IntWalk.wrap64_in _ (by omega)
    have hsw2 : IntKind.i64.wrap ((2 : Int) ^ v) = ((2 ^ v : Nat) : Int) := by
      rw [pow_int]
      generalize 2 ^ v = p at hs32 ⊢
      exact IntWalk.i64_in _ (by omega)
    have hs64 : 2 ^ v < 64 := Nat.lt_of_le_of_lt hs32 (by decide)
    have hmin : min (2 ^ v) 64 = 2 ^ v := Nat.min_eq_left (Nat.le_of_lt hs64)
    clear hs32
    generalize 2 ^ v = s at hsw hsw2 hs64 hmin ⊢
    have hnv : ¬ (v : Int) ≥ 6 := by omega
    have HCC := Lib.hid hcc
    clear hxe hx hcol hcc h6 hf hi
    cases b with
    | true =>
      rw [if_pos rfl]
      have ha := u64_and_nat x c hxb hcl
      have hy : x &&& c < 18446744073709551616 := Nat.lt_of_le_of_lt Nat.and_le_left hxb
      generalize x &&& c = y at ha hy ⊢
      have hzl : y / 2 ^ s < 18446744073709551616 := Nat.lt_of_le_of_lt (Nat.div_le_self _ _) hy
      have hd : (y : Int) / 2 ^ s = ((y / 2 ^ s : Nat) : Int) := by rw [pow_int]; exact (Int.natCast_ediv y (2 ^ s)).symm
      generalize y / 2 ^ s = z at hd hzl ⊢
      have ho := u64_or_nat y z hy hzl
      go_enter Try.func77, Try.ntmps77
      go_upto_region 6 with fail
      refine wp_quiet (by kernel_rfl) (by kernel_rfl) ?_
      repeat (any_goals (first | go_big_quiet_step ((go_at_call 67; exact quiet_call ((HCC.out _).mono fun e w' h => ⟨h.1, h.2 ▸ Frm.refl _ _⟩))) | quiet_step ((go_at_call 67; exact quiet_call ((HCC.out _).mono fun e w' h => ⟨h.1, h.2 ▸ Frm.refl _ _⟩)))))
      refine wpQuiet_nil ?_
      rintro wz ⟨q, hq⟩
      have hsz : Same w wz := by rw [hq]; exact more_same _ q
      have hc2 := (hsz.cell (World.block_lt_of_cell? w _ hc) id).trans hc
      have hcb2 := (hsz.cell (World.block_lt_of_cell? w _ hcb) id).trans hcb
      have hca2 := (hsz.cell (World.block_lt_of_cell? w _ hca) id).trans hca
      have HSZ := Lib.hid hsz
      clear hq hsz hc hcb hca hcv
      go_wp2
      go_ret
      exact ⟨rfl, HSZ.out⟩
    | false =>
      rw [if_neg (by decide)]
      have ha := u64_andNot_nat x c hxb hcl
      have hy : x &&& (18446744073709551615 - c) < 18446744073709551616 := Nat.lt_of_le_of_lt Nat.and_le_left hxb
      generalize x &&& (18446744073709551615 - c) = y at ha hy ⊢
      have hzl : y * 2 ^ s % 18446744073709551616 < 18446744073709551616 := Nat.mod_lt _ (by omega)
      have hd : IntKind.u64.wrap ((y : Int) * 2 ^ s) = ((y * 2 ^ s % 18446744073709551616 : Nat) : Int) := by
        rw [pow_int, IntKind.wrap_u64, ← Int.natCast_mul]
        exact (Int.natCast_emod _ _).symm
      generalize y * 2 ^ s % 18446744073709551616 = z at hd hzl ⊢
      have ho := u64_or_nat y z hy hzl
      go_enter Try.func77, Try.ntmps77
      go_upto_region 6 with fail
      refine wp_quiet (by kernel_rfl) (by kernel_rfl) ?_
      repeat (any_goals (first | go_big_quiet_step ((go_at_call 67; exact quiet_call ((HCC.out _).mono fun e w' h => ⟨h.1, h.2 ▸ Frm.refl _ _⟩))) | quiet_step ((go_at_call 67; exact quiet_call ((HCC.out _).mono fun e w' h => ⟨h.1, h.2 ▸ Frm.refl _ _⟩)))))
      refine wpQuiet_nil ?_
      rintro wz ⟨q, hq⟩
      have hsz : Same w wz := by rw [hq]; exact more_same _ q
      have hc2 := (hsz.cell (World.block_lt_of_cell? w _ hc) id).trans hc
      have hcb2 := (hsz.cell (World.block_lt_of_cell? w _ hcb) id).trans hcb
      have hca2 := (hsz.cell (World.block_lt_of_cell? w _ hca) id).trans hca
      have HSZ := Lib.hid hsz
      clear hq hsz hc hcb hca hcv
      go_wp2
      go_ret
      exact ⟨rfl, HSZ.out⟩
end Go.Proofs.Ytlggmoghgoeiiaa


/- Truth tables: half of the program; the error of a table and a variable. -/
namespace Go.Proofs.Ytlggmoghgoeiiaa
open Go.RowKit Go.Tk

/-- the cofactor's values -/
def hfF (v : Nat) (b : Bool) (ws : List Nat) : Nat → Bool := fun i => vb ws (wth i v b)
theorem Small.getD {ws : List Nat} (h : Small ws) (i : Nat) : ws.getD i 0 < 18446744073709551616 := by
  rw [List.getD_eq_getElem?_getD]
  cases hx : ws[i]? with
  | none => simp
  | some x => exact h.at1 hx
theorem halfW_lt {v x : Nat} {b : Bool} (hx : x < 18446744073709551616) : halfW v b x < 18446744073709551616 := by
  unfold halfW
  have h1 : x &&& bsum (fun j => j.testBit v) 64 < 2 ^ 64 := Nat.lt_of_le_of_lt Nat.and_le_left hx
  have h2 : x &&& (18446744073709551615 - bsum (fun j => j.testBit v) 64) < 2 ^ 64 := Nat.lt_of_le_of_lt Nat.and_le_left hx
  split
  · exact Nat.or_lt_two_pow (n := 64) h1 (Nat.lt_of_le_of_lt (Nat.div_le_self _ _) h1)
  · exact Nat.or_lt_two_pow (n := 64) h2 (Nat.mod_lt _ (by decide))
theorem halfN_lt {v i : Nat} {b : Bool} {ws : List Nat} (h : Small ws) : halfN v b ws i < 18446744073709551616 := by
  unfold halfN
  split
  · exact h.getD _
  · exact halfW_lt (h.getD _)
theorem halfN_bit {n v k j : Nat} {b : Bool} {ws : List Nat} (hf : FormN n ws) (hk : k < nw n) (hv : v < n) (hj : j < 64) : (halfN v b ws k).testBit j = hfF v b ws (64 * k + j) := by
  unfold halfN hfF
  by_cases h6 : 6 ≤ v
  · rw [if_pos h6, wth_high b hj h6]
    have h0 : nw n = 2 ^ (n - 6) := by unfold nw; rw [if_neg (by omega)]
    have hil : wth k (v - 6) b < ws.length := by
      rw [hf.len, h0]
      rw [h0] at hk
      exact wth_lt hk (by omega)
    rw [getD_of (List.getElem?_eq_getElem hil), vb_word (List.getElem?_eq_getElem hil) hj]
  · have hkl : k < ws.length := by rw [hf.len]; exact hk
    rw [if_neg h6, wth_low b hj (by omega), getD_of (List.getElem?_eq_getElem hkl), halfW_bit b (by omega) hj, vb_word (List.getElem?_eq_getElem hkl) (wth_lt (n := 6) hj (by omega))]
set_option maxHeartbeats 4000000 in
theorem half_any (n v : Nat) (b : Bool) (Aa : Option Addr) (Ca : Nat) (wsa : List Nat) (w : World) (h : TbOk w ⟨n, Aa, Ca, wsa⟩) (hf : FormN n wsa) (hv : v < n) :
    Calls Try.prog 52 #[.agg #[.int .i64 n, .slice Aa wsa.length Ca], .int .i64 v, .bool b] w (RetT w n (tab n (hfF v b wsa))) := by
  have hmf : ∀ (fn : Fn) (first cap : Array Value) (w : World), (Instr.makeFunc fn first cap).run Try.prog w = .ok (.func fn first cap) w := fun _ _ _ _ => rfl
  have H := Lib.hid h
  have hn := hf.n16
  have HTB := Lib.hid (laid_tab (n := n) (g := halfN v b wsa) (F := hfF v b wsa) fun k hk j hj _ => halfN_bit hf hk hv hj)
  have HF := Lib.hid hf
  have HV := Lib.hid hv
  have HSM := Lib.hid h.small
  clear h hf hv
  have hen : ∀ (args : Array Value) (w : World), (callFunc 77 args).run Try.prog w = .ok (.enter 77 args) w := enters_of Try.func77 (by kernel_rfl) rfl
  have HEN := Lib.hid hen
  clear hen
  go_enter Try.func52, Try.ntmps52
  go_upto_region 1 with fail
  refine wp_world fun w1 hw1 => ?_
  have hs1 : Same w w1 := by rw [hw1]; exact ((((Frm.refl _ _).alloc _).alloc _).alloc _).alloc _
  have hBXa : Blk w1 (w.heap.size) 24 #[.int .i64 n, .slice Aa wsa.length Ca] := by
    rw [hw1]
    have := ((((Blk.new w 24 #[.int .i64 n, .slice Aa wsa.length Ca]).alloc (.cells #[.int .i64 v] 3)).alloc (.cells #[.bool b] 4)).alloc (.cells #[.int .i64 0, .slice none 0 0] 24))
    simpa using this
  have hBV : Blk w1 (w.heap.size + 1) 3 #[.int .i64 v] := by
    rw [hw1]
    have := (((Blk.new (w.alloc (.cells #[.int .i64 n, .slice Aa wsa.length Ca] 24)) 3 #[.int .i64 v]).alloc (.cells #[.bool b] 4)).alloc (.cells #[.int .i64 0, .slice none 0 0] 24))
    simpa using this
  have hBB : Blk w1 (w.heap.size + 1 + 1) 4 #[.bool b] := by
    rw [hw1]
    have := ((Blk.new ((w.alloc (.cells #[.int .i64 n, .slice Aa wsa.length Ca] 24)).alloc (.cells #[.int .i64 v] 3)) 4 #[.bool b]).alloc (.cells #[.int .i64 0, .slice none 0 0] 24))
    simpa using this
  have hBR : Blk w1 (w.heap.size + 1 + 1 + 1) 24 #[.int .i64 0, .slice none 0 0] := by
    rw [hw1]
    have := (Blk.new (((w.alloc (.cells #[.int .i64 n, .slice Aa wsa.length Ca] 24)).alloc (.cells #[.int .i64 v] 3)).alloc (.cells #[.bool b] 4)) 24 #[.int .i64 0, .slice none 0 0])
    simpa using this
  clear hw1
  obtain ⟨R, hR⟩ : ∃ b, w.heap.size + 1 + 1 + 1 = b := ⟨_, rfl⟩
  rw [hR] at hBR ⊢
  obtain ⟨B, hB⟩ : ∃ b, w.heap.size + 1 + 1 = b := ⟨_, rfl⟩
  rw [hB] at hBB ⊢
  obtain ⟨V, hV⟩ : ∃ b, w.heap.size + 1 = b := ⟨_, rfl⟩
  rw [hV] at hBV ⊢
  have leV : w.heap.size ≤ V := by omega
  have leB : w.heap.size ≤ B := by omega
  have leR : w.heap.size ≤ R := by omega
  have neXaV : w.heap.size ≠ V := by omega
  have neXaB : w.heap.size ≠ B := by omega
  have neXaR : w.heap.size ≠ R := by omega
  have neVB : V ≠ B := by omega
  have neVR : V ≠ R := by omega
  have neBR : B ≠ R := by omega
  clear hV hB hR
  have cXa0 : w1.cell? ⟨w.heap.size, 0, none⟩ = some (.int .i64 n) := hBXa.cell 0
  have cXa1 : w1.cell? ⟨w.heap.size, 1, none⟩ = some (.slice Aa wsa.length Ca) := hBXa.cell 1
  have lXa := hBXa.lt
  have fXa0 := hBXa.free 0
  have fXa1 := hBXa.free 1
  have HBXa := Lib.hid hBXa
  have cV0 : w1.cell? ⟨V, 0, none⟩ = some (.int .i64 v) := hBV.cell 0
  have lV := hBV.lt
  have fV0 := hBV.free 0
  have HBV := Lib.hid hBV
  have cB0 : w1.cell? ⟨B, 0, none⟩ = some (.bool b) := hBB.cell 0
  have lB := hBB.lt
  have fB0 := hBB.free 0
  have HBB := Lib.hid hBB
  have cR0 : w1.cell? ⟨R, 0, none⟩ = some (.int .i64 0) := hBR.cell 0
  have cR1 : w1.cell? ⟨R, 1, none⟩ = some (.slice none 0 0) := hBR.cell 1
  have lR := hBR.lt
  have fR0 := hBR.free 0
  have fR1 := hBR.free 1
  have HBR := Lib.hid hBR
  have HS1 := Lib.hid hs1
  clear hs1 hBXa hBV hBB hBR
  have htl : Tells w1 n 77 #[.pointer (some ⟨V, 0, none⟩), .pointer (some ⟨B, 0, none⟩), .pointer (some ⟨w.heap.size, 0, none⟩)] (halfN v b wsa) := fun i hi => ⟨halfN_lt HSM.out, fun w' hs' => by
    refine (half1_any n i v V B w.heap.size b Aa Ca wsa w' HF.out hi HV.out (Sl.same (Sl.same H.out.wl HS1.out) hs') HSM.out ((hs'.cell (p := ⟨V, 0, none⟩) lV id).trans cV0) ((hs'.cell (p := ⟨B, 0, none⟩) lB id).trans cB0) ((hs'.cell (p := ⟨w.heap.size, 1, none⟩) lXa id).trans cXa1)).mono ?_
    exact fun e w'' h => h⟩
  have HTL := Lib.hid htl
  clear htl
  go_wp2_with (fail)
  refine (laid_any n 77 #[.pointer (some ⟨V, 0, none⟩), .pointer (some ⟨B, 0, none⟩), .pointer (some ⟨w.heap.size, 0, none⟩)] (halfN v b wsa) w1 hn HEN.out HTL.out).mono ?_
  rintro e w3 ⟨Aq, Cq, rfl, hNT⟩
  rw [HTB.out] at hNT ⊢
  have hoq := hNT.1
  have hfq := hNT.2.1
  have hsq := hNT.2.2
  have hRq : ∀ a, Aq = some a → a.block ≠ R := fun a ha h => by
    have := hfq a.block ⟨a, ha, rfl⟩
    omega
  have HBRq := Lib.hid (HBR.out.frm hsq id)
  have HSq := Lib.hid (HS1.out.trans hsq (fun _ _ h => h))
  have hfq' : Fresh w.heap.size Aq := fun b hb => by have := hfq b hb; have := HS1.out.size; omega
  have HOQ := Lib.hid hoq
  have HFQ := Lib.hid hfq'
  have hcR0 : w3.cell? ⟨R, 0, none⟩ = some (.int .i64 0) := HBRq.out.cell 0
  have hcR1 : w3.cell? ⟨R, 1, none⟩ = some (.slice none 0 0) := HBRq.out.cell 1
  have hfR0 := HBRq.out.free 0
  have hfR1 := HBRq.out.free 1
  have hlR := HBRq.out.lt
  clear hNT hoq hfq hsq hfq'
  go_wp2
  refine wp_post fun we hwe => ?_
  have hBE : Blk we R 24 #[.int .i64 n, .slice Aq (tab n (hfF v b wsa)).length Cq] := by
    rw [hwe]
    have := (HBRq.out.set 0 (.int .i64 n)).set 1 (.slice Aq (tab n (hfF v b wsa)).length Cq)
    simpa using this
  have hSE : Same w we := by rw [hwe]; exact (HSq.out.setNew 0 _ leR).setNew 1 _ leR
  have hOE : OwnW we Aq (tab n (hfF v b wsa)).length Cq (tab n (hfF v b wsa)) := by
    rw [hwe]
    exact (Own.far (p := ⟨R, 0, none⟩) HOQ.out hRq _).far (p := ⟨R, 1, none⟩) hRq _
  have hr0 : we.cell? ⟨R, 0, none⟩ = some (.int .i64 n) := hBE.cell 0
  have hr1 : we.cell? ⟨R, 1, none⟩ = some (.slice Aq (tab n (hfF v b wsa)).length Cq) := hBE.cell 1
  clear hwe hBE
  refine bodyPost_ret (v := .agg #[.int .i64 n, .slice Aq (tab n (hfF v b wsa)).length Cq]) (by simp [results, Try.results52, go_sem, hr0, hr1]) rfl ?_
  exact ⟨Aq, Cq, rfl, hOE, HFQ.out, hSE⟩

/-- the error of a table and a variable -/
def ofE (N v : Int) (ws : List Nat) : Int := if frm N ws then (if v < 0 ∨ N ≤ v then 2 else 0) else 5
set_option maxHeartbeats 2000000 in
theorem of_any (Na : Int) (Aa : Option Addr) (Ca : Nat) (wsa : List Nat) (v : Int) (w : World) (h : TbOk w ⟨Na, Aa, Ca, wsa⟩) : Calls Try.prog 51 #[.agg #[.int .i64 Na, .slice Aa wsa.length Ca], .int .i64 v] w fun e w' => e = .returned (.int .i64 (ofE Na v wsa)) ∧ Same w w' := by
  have H := Lib.hid h
  clear h
  unfold ofE
  cases hfr : frm Na wsa with
  | false =>
    have HFM := Lib.hid ((frm_one Na Aa Ca wsa).trans hfr)
    clear hfr
    rw [if_neg (by decide)]
    go_enter Try.func51, Try.ntmps51
    go_upto_region 1 with fail
    refine wp_world fun w1 hw1 => ?_
    have hs1 : Same w w1 := by rw [hw1]; exact (Frm.refl _ _).alloc _
    have hBXa : Blk w1 (w.heap.size) 24 #[.int .i64 Na, .slice Aa wsa.length Ca] := by
      rw [hw1]
      have := (Blk.new w 24 #[.int .i64 Na, .slice Aa wsa.length Ca])
      simpa using this
    clear hw1
    have cXa0 : w1.cell? ⟨w.heap.size, 0, none⟩ = some (.int .i64 Na) := hBXa.cell 0
    have cXa1 : w1.cell? ⟨w.heap.size, 1, none⟩ = some (.slice Aa wsa.length Ca) := hBXa.cell 1
    have lXa := hBXa.lt
    have fXa0 := hBXa.free 0
    have fXa1 := hBXa.free 1
    have HBXa := Lib.hid hBXa
    have HS1 := Lib.hid hs1
    clear hs1 hBXa
    have HOKa := Lib.hid (H.out.same HS1.out)
    go_wp2_with (fail)
    refine call_world fun w2 hw2 => ?_
    have hs2 : Same w1 w2 := by rw [hw2]; exact (Frm.refl _ _).alloc _
    have hBL : Blk w2 w1.heap.size 24 #[.int .i64 Na, .slice Aa wsa.length Ca] := by rw [hw2]; exact Blk.new _ _ _
    have htbs : Tbs w2 w1.heap.size [⟨Na, Aa, Ca, wsa⟩] := by
      intro i t hi
      match i, hi with
      | 0, hi =>
        simp only [List.getElem?_cons_zero, Option.some.injEq] at hi
        subst hi
        exact ⟨hBL.lt, hBL.cell 0, hBL.cell 1⟩
      | i + 1, hi => simp at hi
    have hfc := form_any w1.heap.size 1 1 [⟨Na, Aa, Ca, wsa⟩] w2 rfl (by decide) htbs (fun t ht => by
      simp only [List.mem_cons, List.not_mem_nil, or_false] at ht
      rcases ht with rfl
      · exact (HOKa.out).same hs2)
    rw [HFM.out] at hfc
    refine hfc.mono ?_
    clear hfc htbs hBL hw2
    rintro e w3 ⟨rfl, hs3⟩
    have hs13 : Same w1 w3 := hs2.trans hs3 (fun _ _ h => h)
    clear hs2 hs3
    replace HBXa := Lib.hid (HBXa.out.frm hs13 id)
    replace cXa0 : w3.cell? ⟨w.heap.size, 0, none⟩ = some (.int .i64 Na) := HBXa.out.cell 0
    replace cXa1 : w3.cell? ⟨w.heap.size, 1, none⟩ = some (.slice Aa wsa.length Ca) := HBXa.out.cell 1
    replace lXa := HBXa.out.lt
    replace fXa0 := HBXa.out.free 0
    replace fXa1 := HBXa.out.free 1
    replace HS1 := Lib.hid (HS1.out.trans hs13 (fun _ _ h => h))
    clear hs13
    go_wp2
    go_ret
    exact ⟨rfl, HS1.out⟩
  | true =>
    have HFM := Lib.hid ((frm_one Na Aa Ca wsa).trans hfr)
    clear hfr
    rw [if_pos rfl]
    by_cases h1 : v < 0 ∨ Na ≤ v
    · rw [if_pos h1]
      by_cases h2 : v < 0
      · clear h1
        go_enter Try.func51, Try.ntmps51
        go_upto_region 1 with fail
        refine wp_world fun w1 hw1 => ?_
        have hs1 : Same w w1 := by rw [hw1]; exact (Frm.refl _ _).alloc _
        have hBXa : Blk w1 (w.heap.size) 24 #[.int .i64 Na, .slice Aa wsa.length Ca] := by
          rw [hw1]
          have := (Blk.new w 24 #[.int .i64 Na, .slice Aa wsa.length Ca])
          simpa using this
        clear hw1
        have cXa0 : w1.cell? ⟨w.heap.size, 0, none⟩ = some (.int .i64 Na) := hBXa.cell 0
        have cXa1 : w1.cell? ⟨w.heap.size, 1, none⟩ = some (.slice Aa wsa.length Ca) := hBXa.cell 1
        have lXa := hBXa.lt
        have fXa0 := hBXa.free 0
        have fXa1 := hBXa.free 1
        have HBXa := Lib.hid hBXa
        have HS1 := Lib.hid hs1
        clear hs1 hBXa
        have HOKa := Lib.hid (H.out.same HS1.out)
        go_wp2_with (fail)
        refine call_world fun w2 hw2 => ?_
        have hs2 : Same w1 w2 := by rw [hw2]; exact (Frm.refl _ _).alloc _
        have hBL : Blk w2 w1.heap.size 24 #[.int .i64 Na, .slice Aa wsa.length Ca] := by rw [hw2]; exact Blk.new _ _ _
        have htbs : Tbs w2 w1.heap.size [⟨Na, Aa, Ca, wsa⟩] := by
          intro i t hi
          match i, hi with
          | 0, hi =>
            simp only [List.getElem?_cons_zero, Option.some.injEq] at hi
            subst hi
            exact ⟨hBL.lt, hBL.cell 0, hBL.cell 1⟩
          | i + 1, hi => simp at hi
        have hfc := form_any w1.heap.size 1 1 [⟨Na, Aa, Ca, wsa⟩] w2 rfl (by decide) htbs (fun t ht => by
          simp only [List.mem_cons, List.not_mem_nil, or_false] at ht
          rcases ht with rfl
          · exact (HOKa.out).same hs2)
        rw [HFM.out] at hfc
        refine hfc.mono ?_
        clear hfc htbs hBL hw2
        rintro e w3 ⟨rfl, hs3⟩
        have hs13 : Same w1 w3 := hs2.trans hs3 (fun _ _ h => h)
        clear hs2 hs3
        replace HBXa := Lib.hid (HBXa.out.frm hs13 id)
        replace cXa0 : w3.cell? ⟨w.heap.size, 0, none⟩ = some (.int .i64 Na) := HBXa.out.cell 0
        replace cXa1 : w3.cell? ⟨w.heap.size, 1, none⟩ = some (.slice Aa wsa.length Ca) := HBXa.out.cell 1
        replace lXa := HBXa.out.lt
        replace fXa0 := HBXa.out.free 0
        replace fXa1 := HBXa.out.free 1
        replace HS1 := Lib.hid (HS1.out.trans hs13 (fun _ _ h => h))
        clear hs13
        go_wp2
        go_ret
        exact ⟨rfl, HS1.out⟩
      · have h3 : v ≥ Na := by omega
        clear h1
        go_enter Try.func51, Try.ntmps51
        go_upto_region 1 with fail
        refine wp_world fun w1 hw1 => ?_
        have hs1 : Same w w1 := by rw [hw1]; exact (Frm.refl _ _).alloc _
        have hBXa : Blk w1 (w.heap.size) 24 #[.int .i64 Na, .slice Aa wsa.length Ca] := by
          rw [hw1]
          have := (Blk.new w 24 #[.int .i64 Na, .slice Aa wsa.length Ca])
          simpa using this
        clear hw1
        have cXa0 : w1.cell? ⟨w.heap.size, 0, none⟩ = some (.int .i64 Na) := hBXa.cell 0
        have cXa1 : w1.cell? ⟨w.heap.size, 1, none⟩ = some (.slice Aa wsa.length Ca) := hBXa.cell 1
        have lXa := hBXa.lt
        have fXa0 := hBXa.free 0
        have fXa1 := hBXa.free 1
        have HBXa := Lib.hid hBXa
        have HS1 := Lib.hid hs1
        clear hs1 hBXa
        have HOKa := Lib.hid (H.out.same HS1.out)
        go_wp2_with (fail)
        refine call_world fun w2 hw2 => ?_
        have hs2 : Same w1 w2 := by rw [hw2]; exact (Frm.refl _ _).alloc _
        have hBL : Blk w2 w1.heap.size 24 #[.int .i64 Na, .slice Aa wsa.length Ca] := by rw [hw2]; exact Blk.new _ _ _
        have htbs : Tbs w2 w1.heap.size [⟨Na, Aa, Ca, wsa⟩] := by
          intro i t hi
          match i, hi with
          | 0, hi =>
            simp only [List.getElem?_cons_zero, Option.some.injEq] at hi
            subst hi
            exact ⟨hBL.lt, hBL.cell 0, hBL.cell 1⟩
          | i + 1, hi => simp at hi
        have hfc := form_any w1.heap.size 1 1 [⟨Na, Aa, Ca, wsa⟩] w2 rfl (by decide) htbs (fun t ht => by
          simp only [List.mem_cons, List.not_mem_nil, or_false] at ht
          rcases ht with rfl
          · exact (HOKa.out).same hs2)
        rw [HFM.out] at hfc
        refine hfc.mono ?_
        clear hfc htbs hBL hw2
        rintro e w3 ⟨rfl, hs3⟩
        have hs13 : Same w1 w3 := hs2.trans hs3 (fun _ _ h => h)
        clear hs2 hs3
        replace HBXa := Lib.hid (HBXa.out.frm hs13 id)
        replace cXa0 : w3.cell? ⟨w.heap.size, 0, none⟩ = some (.int .i64 Na) := HBXa.out.cell 0
        replace cXa1 : w3.cell? ⟨w.heap.size, 1, none⟩ = some (.slice Aa wsa.length Ca) := HBXa.out.cell 1
        replace lXa := HBXa.out.lt
        replace fXa0 := HBXa.out.free 0
        replace fXa1 := HBXa.out.free 1
        replace HS1 := Lib.hid (HS1.out.trans hs13 (fun _ _ h => h))
        clear hs13
        go_wp2
        go_ret
        exact ⟨rfl, HS1.out⟩
    · rw [if_neg h1]
      have h2 : ¬ v < 0 := by omega
      have h3 : ¬ v ≥ Na := by omega
      clear h1
      go_enter Try.func51, Try.ntmps51
      go_upto_region 1 with fail
      refine wp_world fun w1 hw1 => ?_
      have hs1 : Same w w1 := by rw [hw1]; exact (Frm.refl _ _).alloc _
      have hBXa : Blk w1 (w.heap.size) 24 #[.int .i64 Na, .slice Aa wsa.length Ca] := by
        rw [hw1]
        have := (Blk.new w 24 #[.int .i64 Na, .slice Aa wsa.length Ca])
        simpa using this
      clear hw1
      have cXa0 : w1.cell? ⟨w.heap.size, 0, none⟩ = some (.int .i64 Na) := hBXa.cell 0
      have cXa1 : w1.cell? ⟨w.heap.size, 1, none⟩ = some (.slice Aa wsa.length Ca) := hBXa.cell 1
      have lXa := hBXa.lt
      have fXa0 := hBXa.free 0
      have fXa1 := hBXa.free 1
      have HBXa := Lib.hid hBXa
      have HS1 := Lib.hid hs1
      clear hs1 hBXa
      have HOKa := Lib.hid (H.out.same HS1.out)
      go_wp2_with (fail)
      refine call_world fun w2 hw2 => ?_
      have hs2 : Same w1 w2 := by rw [hw2]; exact (Frm.refl _ _).alloc _
      have hBL : Blk w2 w1.heap.size 24 #[.int .i64 Na, .slice Aa wsa.length Ca] := by rw [hw2]; exact Blk.new _ _ _
      have htbs : Tbs w2 w1.heap.size [⟨Na, Aa, Ca, wsa⟩] := by
        intro i t hi
        match i, hi with
        | 0, hi =>
          simp only [List.getElem?_cons_zero, Option.some.injEq] at hi
          subst hi
          exact ⟨hBL.lt, hBL.cell 0, hBL.cell 1⟩
        | i + 1, hi => simp at hi
      have hfc := form_any w1.heap.size 1 1 [⟨Na, Aa, Ca, wsa⟩] w2 rfl (by decide) htbs (fun t ht => by
        simp only [List.mem_cons, List.not_mem_nil, or_false] at ht
        rcases ht with rfl
        · exact (HOKa.out).same hs2)
      rw [HFM.out] at hfc
      refine hfc.mono ?_
      clear hfc htbs hBL hw2
      rintro e w3 ⟨rfl, hs3⟩
      have hs13 : Same w1 w3 := hs2.trans hs3 (fun _ _ h => h)
      clear hs2 hs3
      replace HBXa := Lib.hid (HBXa.out.frm hs13 id)
      replace cXa0 : w3.cell? ⟨w.heap.size, 0, none⟩ = some (.int .i64 Na) := HBXa.out.cell 0
      replace cXa1 : w3.cell? ⟨w.heap.size, 1, none⟩ = some (.slice Aa wsa.length Ca) := HBXa.out.cell 1
      replace lXa := HBXa.out.lt
      replace fXa0 := HBXa.out.free 0
      replace fXa1 := HBXa.out.free 1
      replace HS1 := Lib.hid (HS1.out.trans hs13 (fun _ _ h => h))
      clear hs13
      go_wp2
      go_ret
      exact ⟨rfl, HS1.out⟩
end Go.Proofs.Ytlggmoghgoeiiaa


/- Truth tables: Cofactor and Exists of the program. -/
namespace Go.Proofs.Ytlggmoghgoeiiaa
open Go.RowKit Go.Tk

theorem ofE_ok {N v : Int} {ws : List Nat} (h : ofE N v ws = 0) : ∃ n V : Nat, N = n ∧ v = V ∧ FormN n ws ∧ V < n := by
  unfold ofE at h
  cases hf : frm N ws with
  | false => rw [hf, if_neg (by decide)] at h; cases h
  | true =>
    rw [hf, if_pos rfl] at h
    obtain ⟨n, rfl, hn⟩ := frm_true hf
    split at h
    · cases h
    · rename_i h1
      exact ⟨n, v.toNat, rfl, by omega, hn, by omega⟩
theorem fm_tabs {n : Nat} {A0 A1 : Option Addr} {C0 C1 : Nat} {F G : Nat → Bool} (h : n ≤ 16) : fm [⟨n, A0, C0, tab n F⟩, ⟨n, A1, C1, tab n G⟩] = true := by
  have h1 : frm n (tab n F) = true := frm_nat.2 (tab_form h)
  have h2 : frm n (tab n G) = true := frm_nat.2 (tab_form h)
  simp [fm, Tb.frm, h1, h2]
/-- some value of v -/
def exF (v : Nat) (ws : List Nat) : Nat → Bool := fun i => hfF v false ws i || hfF v true ws i
set_option maxRecDepth 100000 in
set_option maxHeartbeats 4000000 in
theorem Cofactor_any (Na : Int) (Aa : Option Addr) (Ca : Nat) (wsa : List Nat) (v : Int) (b : Bool) (w : World) (h : TbOk w ⟨Na, Aa, Ca, wsa⟩) : Calls Try.prog 14 #[.agg #[.int .i64 Na, .slice Aa wsa.length Ca], .int .i64 v, .bool b] w (RetA w Na (tab Na.toNat (hfF v.toNat b wsa)) (ofE Na v wsa)) := by
  have H := Lib.hid h
  clear h
  have hof := fun (w : World) (h : TbOk w ⟨Na, Aa, Ca, wsa⟩) => of_any Na Aa Ca wsa v w h
  obtain ⟨c, hc⟩ : ∃ c, ofE Na v wsa = c := ⟨_, rfl⟩
  rw [hc] at hof ⊢
  have HOF := Lib.hid hof
  clear hof
  by_cases h0 : ¬ c = 0
  · have h0' : (c != 0) = true := by simpa using h0
    unfold RetA
    rw [show ansN Na c = 0 by unfold ansN; rw [if_neg h0], show ansL (tab Na.toNat (hfF v.toNat b wsa)) c = [] by unfold ansL; rw [if_neg h0]]
    clear hc h0
    go_enter Try.func14, Try.ntmps14
    go_upto_region 1 with fail
    refine wp_world fun w1 hw1 => ?_
    have hs1 : Same w w1 := by rw [hw1]; exact ((Frm.refl _ _).alloc _).alloc _
    have hBXa : Blk w1 (w.heap.size) 24 #[.int .i64 Na, .slice Aa wsa.length Ca] := by
      rw [hw1]
      have := ((Blk.new w 24 #[.int .i64 Na, .slice Aa wsa.length Ca]).alloc (.cells #[.int .i64 0, .slice none 0 0] 24))
      simpa using this
    have hBR : Blk w1 (w.heap.size + 1) 24 #[.int .i64 0, .slice none 0 0] := by
      rw [hw1]
      have := (Blk.new (w.alloc (.cells #[.int .i64 Na, .slice Aa wsa.length Ca] 24)) 24 #[.int .i64 0, .slice none 0 0])
      simpa using this
    clear hw1
    obtain ⟨R, hR⟩ : ∃ b, w.heap.size + 1 = b := ⟨_, rfl⟩
    rw [hR] at hBR ⊢
    have leR : w.heap.size ≤ R := by omega
    have neXaR : w.heap.size ≠ R := by omega
    clear hR
    have cXa0 : w1.cell? ⟨w.heap.size, 0, none⟩ = some (.int .i64 Na) := hBXa.cell 0
    have cXa1 : w1.cell? ⟨w.heap.size, 1, none⟩ = some (.slice Aa wsa.length Ca) := hBXa.cell 1
    have lXa := hBXa.lt
    have fXa0 := hBXa.free 0
    have fXa1 := hBXa.free 1
    have HBXa := Lib.hid hBXa
    have cR0 : w1.cell? ⟨R, 0, none⟩ = some (.int .i64 0) := hBR.cell 0
    have cR1 : w1.cell? ⟨R, 1, none⟩ = some (.slice none 0 0) := hBR.cell 1
    have lR := hBR.lt
    have fR0 := hBR.free 0
    have fR1 := hBR.free 1
    have HBR := Lib.hid hBR
    have HS1 := Lib.hid hs1
    clear hs1 hBXa hBR
    go_wp2_with (fail)
    refine (HOF.out w1 (H.out.same HS1.out)).mono ?_
    rintro e w3 ⟨rfl, hs13⟩
    replace HBXa := Lib.hid (HBXa.out.frm hs13 id)
    replace cXa0 : w3.cell? ⟨w.heap.size, 0, none⟩ = some (.int .i64 Na) := HBXa.out.cell 0
    replace cXa1 : w3.cell? ⟨w.heap.size, 1, none⟩ = some (.slice Aa wsa.length Ca) := HBXa.out.cell 1
    replace lXa := HBXa.out.lt
    replace fXa0 := HBXa.out.free 0
    replace fXa1 := HBXa.out.free 1
    replace HBR := Lib.hid (HBR.out.frm hs13 id)
    replace cR0 : w3.cell? ⟨R, 0, none⟩ = some (.int .i64 0) := HBR.out.cell 0
    replace cR1 : w3.cell? ⟨R, 1, none⟩ = some (.slice none 0 0) := HBR.out.cell 1
    replace lR := HBR.out.lt
    replace fR0 := HBR.out.free 0
    replace fR1 := HBR.out.free 1
    replace HS1 := Lib.hid (HS1.out.trans hs13 (fun _ _ h => h))
    clear hs13
    go_wp2
    refine wp_post fun we hwe => ?_
    have hBE : Blk we R 24 #[.int .i64 0, .slice none 0 0] := by
      rw [hwe]
      have := (HBR.out.set 0 (.int .i64 0)).set 1 (.slice none 0 0)
      simpa using this
    have hSE : Same w we := by rw [hwe]; exact (HS1.out.setNew 0 _ leR).setNew 1 _ leR
    have hr0 : we.cell? ⟨R, 0, none⟩ = some (.int .i64 0) := hBE.cell 0
    have hr1 : we.cell? ⟨R, 1, none⟩ = some (.slice none 0 0) := hBE.cell 1
    clear hwe hBE
    refine bodyPost_ret (v := .tuple #[.agg #[.int .i64 0, .slice none 0 0], .int .i64 c]) (by simp [results, Try.results14, go_sem, hr0, hr1]) rfl ?_
    exact ⟨none, 0, rfl, NewT.nil hSE⟩
  replace h0 : c = 0 := by omega
  subst h0
  obtain ⟨n, V, rfl, rfl, hf, hv⟩ := ofE_ok hc
  have hn := hf.n16
  unfold RetA
  rw [show ansN n 0 = n from rfl, show ansL (tab (n : Int).toNat (hfF (V : Int).toNat b wsa)) 0 = tab n (hfF V b wsa) from rfl]
  have HF := Lib.hid hf
  have HV := Lib.hid hv
  clear hc hf hv
  go_enter Try.func14, Try.ntmps14
  go_upto_region 1 with fail
  refine wp_world fun w1 hw1 => ?_
  have hs1 : Same w w1 := by rw [hw1]; exact ((Frm.refl _ _).alloc _).alloc _
  have hBXa : Blk w1 (w.heap.size) 24 #[.int .i64 n, .slice Aa wsa.length Ca] := by
    rw [hw1]
    have := ((Blk.new w 24 #[.int .i64 n, .slice Aa wsa.length Ca]).alloc (.cells #[.int .i64 0, .slice none 0 0] 24))
    simpa using this
  have hBR : Blk w1 (w.heap.size + 1) 24 #[.int .i64 0, .slice none 0 0] := by
    rw [hw1]
    have := (Blk.new (w.alloc (.cells #[.int .i64 n, .slice Aa wsa.length Ca] 24)) 24 #[.int .i64 0, .slice none 0 0])
    simpa using this
  clear hw1
  obtain ⟨R, hR⟩ : ∃ b, w.heap.size + 1 = b := ⟨_, rfl⟩
  rw [hR] at hBR ⊢
  have leR : w.heap.size ≤ R := by omega
  have neXaR : w.heap.size ≠ R := by omega
  clear hR
  have cXa0 : w1.cell? ⟨w.heap.size, 0, none⟩ = some (.int .i64 n) := hBXa.cell 0
  have cXa1 : w1.cell? ⟨w.heap.size, 1, none⟩ = some (.slice Aa wsa.length Ca) := hBXa.cell 1
  have lXa := hBXa.lt
  have fXa0 := hBXa.free 0
  have fXa1 := hBXa.free 1
  have HBXa := Lib.hid hBXa
  have cR0 : w1.cell? ⟨R, 0, none⟩ = some (.int .i64 0) := hBR.cell 0
  have cR1 : w1.cell? ⟨R, 1, none⟩ = some (.slice none 0 0) := hBR.cell 1
  have lR := hBR.lt
  have fR0 := hBR.free 0
  have fR1 := hBR.free 1
  have HBR := Lib.hid hBR
  have HS1 := Lib.hid hs1
  clear hs1 hBXa hBR
  go_wp2_with (fail)
  refine (HOF.out w1 (H.out.same HS1.out)).mono ?_
  rintro e w3 ⟨rfl, hs13⟩
  replace HBXa := Lib.hid (HBXa.out.frm hs13 id)
  replace cXa0 : w3.cell? ⟨w.heap.size, 0, none⟩ = some (.int .i64 n) := HBXa.out.cell 0
  replace cXa1 : w3.cell? ⟨w.heap.size, 1, none⟩ = some (.slice Aa wsa.length Ca) := HBXa.out.cell 1
  replace lXa := HBXa.out.lt
  replace fXa0 := HBXa.out.free 0
  replace fXa1 := HBXa.out.free 1
  replace HBR := Lib.hid (HBR.out.frm hs13 id)
  replace cR0 : w3.cell? ⟨R, 0, none⟩ = some (.int .i64 0) := HBR.out.cell 0
  replace cR1 : w3.cell? ⟨R, 1, none⟩ = some (.slice none 0 0) := HBR.out.cell 1
  replace lR := HBR.out.lt
  replace fR0 := HBR.out.free 0
  replace fR1 := HBR.out.free 1
  replace HS1 := Lib.hid (HS1.out.trans hs13 (fun _ _ h => h))
  clear hs13
  go_wp2_with (fail)
  refine (half_any n V b Aa Ca wsa w3 (H.out.same HS1.out) HF.out HV.out).mono ?_
  rintro e w4 ⟨Aq, Cq, rfl, hNT⟩
  have hoq := hNT.1
  have hfq := hNT.2.1
  have hsq := hNT.2.2
  have hRq : ∀ a, Aq = some a → a.block ≠ R := fun a ha h => by
    have := hfq a.block ⟨a, ha, rfl⟩
    omega
  have HBRq := Lib.hid (HBR.out.frm hsq id)
  have HSq := Lib.hid (HS1.out.trans hsq (fun _ _ h => h))
  have hfq' : Fresh w.heap.size Aq := fun b hb => by have := hfq b hb; have := HS1.out.size; omega
  have HOQ := Lib.hid hoq
  have HFQ := Lib.hid hfq'
  have hcR0 : w4.cell? ⟨R, 0, none⟩ = some (.int .i64 0) := HBRq.out.cell 0
  have hcR1 : w4.cell? ⟨R, 1, none⟩ = some (.slice none 0 0) := HBRq.out.cell 1
  have hfR0 := HBRq.out.free 0
  have hfR1 := HBRq.out.free 1
  have hlR := HBRq.out.lt
  clear hNT hoq hfq hsq hfq'
  go_wp2
  refine wp_post fun we hwe => ?_
  have hBE : Blk we R 24 #[.int .i64 n, .slice Aq (tab n (hfF V b wsa)).length Cq] := by
    rw [hwe]
    have := (HBRq.out.set 0 (.int .i64 n)).set 1 (.slice Aq (tab n (hfF V b wsa)).length Cq)
    simpa using this
  have hSE : Same w we := by rw [hwe]; exact (HSq.out.setNew 0 _ leR).setNew 1 _ leR
  have hOE : OwnW we Aq (tab n (hfF V b wsa)).length Cq (tab n (hfF V b wsa)) := by
    rw [hwe]
    exact (Own.far (p := ⟨R, 0, none⟩) HOQ.out hRq _).far (p := ⟨R, 1, none⟩) hRq _
  have hr0 : we.cell? ⟨R, 0, none⟩ = some (.int .i64 n) := hBE.cell 0
  have hr1 : we.cell? ⟨R, 1, none⟩ = some (.slice Aq (tab n (hfF V b wsa)).length Cq) := hBE.cell 1
  clear hwe hBE
  refine bodyPost_ret (v := .tuple #[.agg #[.int .i64 n, .slice Aq (tab n (hfF V b wsa)).length Cq], .int .i64 0]) (by simp [results, Try.results14, go_sem, hr0, hr1]) rfl ?_
  exact ⟨Aq, Cq, rfl, hOE, HFQ.out, hSE⟩
set_option maxRecDepth 100000 in
set_option maxHeartbeats 4000000 in
theorem Exists_any (Na : Int) (Aa : Option Addr) (Ca : Nat) (wsa : List Nat) (v : Int) (w : World) (h : TbOk w ⟨Na, Aa, Ca, wsa⟩) : Calls Try.prog 18 #[.agg #[.int .i64 Na, .slice Aa wsa.length Ca], .int .i64 v] w (RetA w Na (tab Na.toNat (exF v.toNat wsa)) (ofE Na v wsa)) := by
  have H := Lib.hid h
  clear h
  have hof := fun (w : World) (h : TbOk w ⟨Na, Aa, Ca, wsa⟩) => of_any Na Aa Ca wsa v w h
  obtain ⟨c, hc⟩ : ∃ c, ofE Na v wsa = c := ⟨_, rfl⟩
  rw [hc] at hof ⊢
  have HOF := Lib.hid hof
  clear hof
  by_cases h0 : ¬ c = 0
  · have h0' : (c != 0) = true := by simpa using h0
    unfold RetA
    rw [show ansN Na c = 0 by unfold ansN; rw [if_neg h0], show ansL (tab Na.toNat (exF v.toNat wsa)) c = [] by unfold ansL; rw [if_neg h0]]
    clear hc h0
    go_enter Try.func18, Try.ntmps18
    go_upto_region 1 with fail
    refine wp_world fun w1 hw1 => ?_
    have hs1 : Same w w1 := by rw [hw1]; exact ((Frm.refl _ _).alloc _).alloc _
    have hBXa : Blk w1 (w.heap.size) 24 #[.int .i64 Na, .slice Aa wsa.length Ca] := by
      rw [hw1]
      have := ((Blk.new w 24 #[.int .i64 Na, .slice Aa wsa.length Ca]).alloc (.cells #[.int .i64 0, .slice none 0 0] 24))
      simpa using this
    have hBR : Blk w1 (w.heap.size + 1) 24 #[.int .i64 0, .slice none 0 0] := by
      rw [hw1]
      have := (Blk.new (w.alloc (.cells #[.int .i64 Na, .slice Aa wsa.length Ca] 24)) 24 #[.int .i64 0, .slice none 0 0])
      simpa using this
    clear hw1
    obtain ⟨R, hR⟩ : ∃ b, w.heap.size + 1 = b := ⟨_, rfl⟩
    rw [hR] at hBR ⊢
    have leR : w.heap.size ≤ R := by omega
    have neXaR : w.heap.size ≠ R := by omega
    clear hR
    have cXa0 : w1.cell? ⟨w.heap.size, 0, none⟩ = some (.int .i64 Na) := hBXa.cell 0
    have cXa1 : w1.cell? ⟨w.heap.size, 1, none⟩ = some (.slice Aa wsa.length Ca) := hBXa.cell 1
    have lXa := hBXa.lt
    have fXa0 := hBXa.free 0
    have fXa1 := hBXa.free 1
    have HBXa := Lib.hid hBXa
    have cR0 : w1.cell? ⟨R, 0, none⟩ = some (.int .i64 0) := hBR.cell 0
    have cR1 : w1.cell? ⟨R, 1, none⟩ = some (.slice none 0 0) := hBR.cell 1
    have lR := hBR.lt
    have fR0 := hBR.free 0
    have fR1 := hBR.free 1
    have HBR := Lib.hid hBR
    have HS1 := Lib.hid hs1
    clear hs1 hBXa hBR
    go_wp2_with (fail)
    refine (HOF.out w1 (H.out.same HS1.out)).mono ?_
    rintro e w3 ⟨rfl, hs13⟩
    replace HBXa := Lib.hid (HBXa.out.frm hs13 id)
    replace cXa0 : w3.cell? ⟨w.heap.size, 0, none⟩ = some (.int .i64 Na) := HBXa.out.cell 0
    replace cXa1 : w3.cell? ⟨w.heap.size, 1, none⟩ = some (.slice Aa wsa.length Ca) := HBXa.out.cell 1
    replace lXa := HBXa.out.lt
    replace fXa0 := HBXa.out.free 0
    replace fXa1 := HBXa.out.free 1
    replace HBR := Lib.hid (HBR.out.frm hs13 id)
    replace cR0 : w3.cell? ⟨R, 0, none⟩ = some (.int .i64 0) := HBR.out.cell 0
    replace cR1 : w3.cell? ⟨R, 1, none⟩ = some (.slice none 0 0) := HBR.out.cell 1
    replace lR := HBR.out.lt
    replace fR0 := HBR.out.free 0
    replace fR1 := HBR.out.free 1
    replace HS1 := Lib.hid (HS1.out.trans hs13 (fun _ _ h => h))
    clear hs13
    go_wp2
    refine wp_post fun we hwe => ?_
    have hBE : Blk we R 24 #[.int .i64 0, .slice none 0 0] := by
      rw [hwe]
      have := (HBR.out.set 0 (.int .i64 0)).set 1 (.slice none 0 0)
      simpa using this
    have hSE : Same w we := by rw [hwe]; exact (HS1.out.setNew 0 _ leR).setNew 1 _ leR
    have hr0 : we.cell? ⟨R, 0, none⟩ = some (.int .i64 0) := hBE.cell 0
    have hr1 : we.cell? ⟨R, 1, none⟩ = some (.slice none 0 0) := hBE.cell 1
    clear hwe hBE
    refine bodyPost_ret (v := .tuple #[.agg #[.int .i64 0, .slice none 0 0], .int .i64 c]) (by simp [results, Try.results18, go_sem, hr0, hr1]) rfl ?_
    exact ⟨none, 0, rfl, NewT.nil hSE⟩
  replace h0 : c = 0 := by omega
  subst h0
  obtain ⟨n, V, rfl, rfl, hf, hv⟩ := ofE_ok hc
  have hn := hf.n16
  unfold RetA
  rw [show ansN n 0 = n from rfl, show ansL (tab (n : Int).toNat (exF (V : Int).toNat wsa)) 0 = tab n (exF V wsa) from rfl]
  have HF := Lib.hid hf
  have HV := Lib.hid hv
  clear hc hf hv
  go_enter Try.func18, Try.ntmps18
  go_upto_region 1 with fail
  refine wp_world fun w1 hw1 => ?_
  have hs1 : Same w w1 := by rw [hw1]; exact ((Frm.refl _ _).alloc _).alloc _
  have hBXa : Blk w1 (w.heap.size) 24 #[.int .i64 n, .slice Aa wsa.length Ca] := by
    rw [hw1]
    have := ((Blk.new w 24 #[.int .i64 n, .slice Aa wsa.length Ca]).alloc (.cells #[.int .i64 0, .slice none 0 0] 24))
    simpa using this
  have hBR : Blk w1 (w.heap.size + 1) 24 #[.int .i64 0, .slice none 0 0] := by
    rw [hw1]
    have := (Blk.new (w.alloc (.cells #[.int .i64 n, .slice Aa wsa.length Ca] 24)) 24 #[.int .i64 0, .slice none 0 0])
    simpa using this
  clear hw1
  obtain ⟨R, hR⟩ : ∃ b, w.heap.size + 1 = b := ⟨_, rfl⟩
  rw [hR] at hBR ⊢
  have leR : w.heap.size ≤ R := by omega
  have neXaR : w.heap.size ≠ R := by omega
  clear hR
  have cXa0 : w1.cell? ⟨w.heap.size, 0, none⟩ = some (.int .i64 n) := hBXa.cell 0
  have cXa1 : w1.cell? ⟨w.heap.size, 1, none⟩ = some (.slice Aa wsa.length Ca) := hBXa.cell 1
  have lXa := hBXa.lt
  have fXa0 := hBXa.free 0
  have fXa1 := hBXa.free 1
  have HBXa := Lib.hid hBXa
  have cR0 : w1.cell? ⟨R, 0, none⟩ = some (.int .i64 0) := hBR.cell 0
  have cR1 : w1.cell? ⟨R, 1, none⟩ = some (.slice none 0 0) := hBR.cell 1
  have lR := hBR.lt
  have fR0 := hBR.free 0
  have fR1 := hBR.free 1
  have HBR := Lib.hid hBR
  have HS1 := Lib.hid hs1
  clear hs1 hBXa hBR
  go_wp2_with (fail)
  refine (HOF.out w1 (H.out.same HS1.out)).mono ?_
  rintro e w3 ⟨rfl, hs13⟩
  replace HBXa := Lib.hid (HBXa.out.frm hs13 id)
  replace cXa0 : w3.cell? ⟨w.heap.size, 0, none⟩ = some (.int .i64 n) := HBXa.out.cell 0
  replace cXa1 : w3.cell? ⟨w.heap.size, 1, none⟩ = some (.slice Aa wsa.length Ca) := HBXa.out.cell 1
  replace lXa := HBXa.out.lt
  replace fXa0 := HBXa.out.free 0
  replace fXa1 := HBXa.out.free 1
  replace HBR := Lib.hid (HBR.out.frm hs13 id)
  replace cR0 : w3.cell? ⟨R, 0, none⟩ = some (.int .i64 0) := HBR.out.cell 0
  replace cR1 : w3.cell? ⟨R, 1, none⟩ = some (.slice none 0 0) := HBR.out.cell 1
  replace lR := HBR.out.lt
  replace fR0 := HBR.out.free 0
  replace fR1 := HBR.out.free 1
  replace HS1 := Lib.hid (HS1.out.trans hs13 (fun _ _ h => h))
  clear hs13
  obtain ⟨S, hS⟩ : ∃ S : Nat → Prop, (fun b => b = R) = S := ⟨_, rfl⟩
  have hSX : ¬ S w.heap.size := by rw [← hS]; exact neXaR
  have HSS := Lib.hid hS
  clear hS
  go_upto_region 4 with fail
  refine wp_phS S [([0, 1, 3, 4], 2), ([], 5), ([], 6), ([7, 8], 9), ([], 10)] (by kernel_rfl) (by kernel_rfl) ?_
  simp only [wpPh, pick, List.map_cons, List.map_nil, List.getD_cons_zero, List.getD_cons_succ]
  repeat (any_goals (first | go_big_quiet_step (fail) | quiet_step (fail)))
  refine wpQuiet_nil ?_
  refine effStep_plain rfl fun K hK => ?_
  go_simp
  have hs3d : Same w3 w3.drew := (Frm.refl _ _).drew
  refine (half_any n V false Aa Ca wsa _ (H.out.same (HS1.out.trans hs3d (fun _ _ h => h))) HF.out HV.out).mono ?_
  rintro e w4 ⟨A0, C0, rfl, hNT⟩
  have hs34 : Same w3 w4 := hs3d.trans hNT.2.2 (fun _ _ h => h)
  have HO0 := Lib.hid hNT.1
  have HS34 := Lib.hid hs34
  refine hK _ _ (Lat.mk_ (Frm.mono hs34 (fun _ _ h => h.elim))) ?_
  clear hK K hNT hs3d
  refine wpQuiet_nil ?_
  refine effStep_plain rfl fun K hK => ?_
  go_simp
  refine (half_any n V true Aa Ca wsa _ (H.out.same (HS1.out.trans hs34 (fun _ _ h => h))) HF.out HV.out).mono ?_
  rintro e w5 ⟨A1, C1, rfl, hNT⟩
  have hs35 : Same w3 w5 := hs34.trans hNT.2.2 (fun _ _ h => h)
  have HO1 := Lib.hid hNT.1
  have HO05 := Lib.hid (Own.frm HO0.out hNT.2.2 (fun _ _ => id))
  have HS35 := Lib.hid hs35
  refine hK _ _ (Lat.mk_ (Frm.mono hs35 (fun _ _ h => h.elim))) ?_
  clear hK K hNT HO0 hs34 HS34
  refine wpQuiet_nil ?_
  refine effStep_plain rfl fun K hK => ?_
  go_simp
  have hBin := Binary_any 14 n A0 C0 (tab n (hfF V false wsa)) n A1 C1 (tab n (hfF V true wsa)) w5 (by decide) ⟨HO05.out.sl ucell_len, fun x hx => tab_lt x hx⟩ ⟨HO1.out.sl ucell_len, fun x hx => tab_lt x hx⟩
  rw [show binE 14 (fm [⟨n, A0, C0, tab n (hfF V false wsa)⟩, ⟨n, A1, C1, tab n (hfF V true wsa)⟩]) = 0 by rw [fm_tabs hn]; rfl] at hBin
  unfold RetA at hBin
  have hTE : tab n (binF 14 (tab n (hfF V false wsa)) (tab n (hfF V true wsa))) = tab n (exF V wsa) := tab_congr fun i hi => by
    unfold binF exF
    rw [vb_tab hi, vb_tab hi]
    cases hfF V false wsa i <;> cases hfF V true wsa i <;> decide
  rw [show ansN n 0 = n from rfl, show ansL (tab (n : Int).toNat (binF 14 (tab n (hfF V false wsa)) (tab n (hfF V true wsa)))) 0 = tab n (exF V wsa) from hTE] at hBin
  clear hTE
  refine hBin.mono ?_
  clear hBin
  rintro e w6 ⟨Aq, Cq, rfl, hNT⟩
  have hs36 : Same w3 w6 := hs35.trans hNT.2.2 (fun _ _ h => h)
  have hoq := hNT.1
  have hfq := hNT.2.1
  have hRq : ∀ a, Aq = some a → a.block ≠ R := fun a ha h => by
    have := hfq a.block ⟨a, ha, rfl⟩
    have := hs35.size
    omega
  have HBRq := Lib.hid (HBR.out.frm hs36 id)
  have HSq := Lib.hid (HS1.out.trans hs36 (fun _ _ h => h))
  have hfq' : Fresh w.heap.size Aq := fun b hb => by have := hfq b hb; have := HS1.out.size; have := hs35.size; omega
  have HOQ := Lib.hid hoq
  have HFQ := Lib.hid hfq'
  refine hK _ _ (Lat.mk_ (Frm.mono hs36 (fun _ _ h => h.elim))) ?_
  have hcR0 : w6.cell? ⟨R, 0, none⟩ = some (.int .i64 0) := HBRq.out.cell 0
  have hcR1 : w6.cell? ⟨R, 1, none⟩ = some (.slice none 0 0) := HBRq.out.cell 1
  have hfR0 := HBRq.out.free 0
  have hfR1 := HBRq.out.free 1
  have hlR := HBRq.out.lt
  have HS36 := Lib.hid hs36
  clear hK K hNT hoq hfq hfq' HO05 HO1 hs35 HS35 hs36
  repeat (any_goals (first | go_big_quiet_step (fail) | quiet_step (fail)))
  refine wpQuiet_nil ?_
  refine effStep_plain rfl fun K hK => ?_
  go_simp
  refine hK _ _ (Lat.mk_ ?_) ?_
  · have hSR : S R := cast (congrFun HSS.out R) rfl
    have hF6 : Frm S w3 w6 := Frm.mono HS36.out (fun _ _ h => h.elim)
    exact (hF6.setCell (p := ⟨R, 0, none⟩) (.inl hSR) _).setCell (p := ⟨R, 1, none⟩) (.inl hSR) _
  clear hK K
  refine wpQuiet_nil ?_
  go_wp2
  refine wp_post fun we hwe => ?_
  have hBE : Blk we R 24 #[.int .i64 n, .slice Aq (tab n (exF V wsa)).length Cq] := by
    rw [hwe]
    have := (HBRq.out.set 0 (.int .i64 n)).set 1 (.slice Aq (tab n (exF V wsa)).length Cq)
    simpa using this
  have hSE : Same w we := by rw [hwe]; exact (HSq.out.setNew 0 _ leR).setNew 1 _ leR
  have hOE : OwnW we Aq (tab n (exF V wsa)).length Cq (tab n (exF V wsa)) := by
    rw [hwe]
    exact (Own.far (p := ⟨R, 0, none⟩) HOQ.out hRq _).far (p := ⟨R, 1, none⟩) hRq _
  have hr0 : we.cell? ⟨R, 0, none⟩ = some (.int .i64 n) := hBE.cell 0
  have hr1 : we.cell? ⟨R, 1, none⟩ = some (.slice Aq (tab n (exF V wsa)).length Cq) := hBE.cell 1
  clear hwe hBE
  refine bodyPost_ret (v := .tuple #[.agg #[.int .i64 n, .slice Aq (tab n (exF V wsa)).length Cq], .int .i64 0]) (by simp [results, Try.results18, go_sem, hr0, hr1]) rfl ?_
  exact ⟨Aq, Cq, rfl, hOE, HFQ.out, hSE⟩
end Go.Proofs.Ytlggmoghgoeiiaa


/- Truth tables: the reference's words, Form, bit, with, count. -/
namespace Go.Proofs.Ytlggmoghgoeiiaa
open Go.RowKit Go.Tk

set_option maxHeartbeats 1000000 in
theorem rwords_any (n : Nat) (w : World) (h : n ≤ 16) : Calls Try.prog 61 #[.int .i64 n] w fun e w' => e = .returned (.int .i64 (nw n : Nat)) ∧ w = w' := by
  obtain ⟨K, hK⟩ : ∃ K, nw n = K := ⟨_, rfl⟩
  rw [hK]
  have HK := Lib.hid hK
  clear hK
  go_enter Try.func61, Try.ntmps61
  go_wp2
  go_loopw [3, 4] (fun s i wr => ∃ m : Nat, (m + 6 ≤ n ∨ m = 0) ∧ i = .int .i64 ((m : Int) + 6) ∧ s = .int .i64 ((2 ^ m : Nat) : Int) ∧ w = wr) (fun _ i _ => n + 7 - (intOf i).toNat)
  case atStart => exact ⟨0, by omega, rfl, rfl, rfl⟩
  case round =>
    obtain ⟨m, hm, rfl, rfl, rfl⟩ := hrel
    by_cases hlt : (m : Int) + 6 < n
    · have hp : 2 ^ m ≤ 2 ^ 10 := Nat.pow_le_pow_right (by omega) (by omega)
      have hst : 2 ^ (m + 1) = 2 ^ m * 2 := Nat.pow_succ 2 m
      generalize 2 ^ m = p at hp hst ⊢
      have hq : wrap64 ((p : Int) * 2) = ((p * 2 : Nat) : Int) := by rw [IntWalk.wrap64_in _ (by omega)]; simp
      have hq1 : wrap64 ((m : Int) + 6 + 1) = ((m + 1 : Nat) : Int) + 6 := by rw [IntWalk.wrap64_in _ (by omega)]; omega
      have HST := Lib.hid hst
      clear hst
      go_wp2
      go_roundw
      case rel => exact ⟨m + 1, by omega, by go_num, by rw [HST.out]; go_num, trivial⟩
      case measure => simp [intOf]; omega
    · have hfin : 2 ^ m = K := by
        rw [← HK.out]
        unfold nw
        split
        · rw [show m = 0 by omega]
        · rw [show m = n - 6 by omega]
      rw [hfin]
      clear hfin
      go_wp2
      go_ret
      exact ⟨rfl, rfl⟩
theorem bit_int (i v : Nat) : (((i : Int) / ((2 ^ v : Nat) : Int) % 2) == 1) = i.testBit v := by
  rw [testBit_dm, ← Int.natCast_ediv, Bool.eq_iff_iff, beq_iff_eq, decide_eq_true_eq]
  generalize i / 2 ^ v = x
  omega
theorem bit_any (i v : Nat) (w : World) (hv : v ≤ 63) : Calls Try.prog 68 #[.int .i64 i, .int .i64 v] w fun e w' => e = .returned (.bool (i.testBit v)) ∧ w = w' := by
  have hb := bit_int i v
  have h1 : (i : Int) / ((2 ^ v : Nat) : Int) = ((i / 2 ^ v : Nat) : Int) := (Int.natCast_ediv i (2 ^ v)).symm
  have h2 : i / 2 ^ v ≤ i := Nat.div_le_self _ _
  have h3 : (2 : Int) ^ v = ((2 ^ v : Nat) : Int) := pow_int v
  have hv0 : (0 : Int) ≤ v := by omega
  rw [h1] at hb
  have h4 : (i : Int) / (2 : Int) ^ v = ((i / 2 ^ v : Nat) : Int) := by rw [h3, h1]
  clear h3 h1
  generalize i / 2 ^ v = q at *
  go_enter Try.func68, Try.ntmps68
  go_wp2
  go_ret
  exact ⟨rfl, rfl⟩
set_option maxHeartbeats 1000000 in
theorem with_any (i v : Nat) (b : Bool) (w : World) (hi : i < 1048576) (hv : v ≤ 20) : Calls Try.prog 55 #[.int .i64 i, .int .i64 v, .bool b] w fun e w' => e = .returned (.int .i64 (wth i v b : Nat)) ∧ w = w' := by
  have hp : 2 ^ v ≤ 2 ^ 20 := Nat.pow_le_pow_right (by omega) hv
  have hbt := fun w => bit_any i v w (by omega)
  have hge : i.testBit v = true → 2 ^ v ≤ i := Nat.ge_two_pow_of_testBit
  have hv0 : (0 : Int) ≤ v := by omega
  have hsw : wrap64 ((2 : Int) ^ v) = ((2 ^ v : Nat) : Int) := by
    rw [pow_int]
    generalize 2 ^ v = p at hp
    exact IntWalk.wrap64_in _ (by omega)
  have hsw2 : IntKind.i64.wrap ((2 : Int) ^ v) = ((2 ^ v : Nat) : Int) := by
    rw [pow_int]
    generalize 2 ^ v = p at hp
    exact IntWalk.i64_in _ (by omega)
  unfold wth
  obtain ⟨t, ht⟩ : ∃ t, i.testBit v = t := ⟨_, rfl⟩
  rw [ht] at hbt hge ⊢
  clear ht
  generalize 2 ^ v = p at *
  have hm : v ≤ 63 := by omega
  clear hv
  have HBT := Lib.hid hbt
  clear hbt
  cases t <;> cases b
  · have hq : wrap64 ((i : Int) + p) = ((i + p : Nat) : Int) := by rw [IntWalk.wrap64_in _ (by omega)]; omega
    rw [if_neg (by decide)]
    clear hge
    go_enter Try.func55, Try.ntmps55
    go_wp2_with (fail)
    refine (HBT.out w).mono ?_
    rintro e w2 ⟨rfl, rfl⟩
    go_wp2
    go_ret
    exact ⟨ret_int (by omega), rfl⟩
  · have hq : wrap64 ((i : Int) + p) = ((i + p : Nat) : Int) := by rw [IntWalk.wrap64_in _ (by omega)]; omega
    rw [if_neg (by decide), if_pos rfl]
    clear hge
    go_enter Try.func55, Try.ntmps55
    go_wp2_with (fail)
    refine (HBT.out w).mono ?_
    rintro e w2 ⟨rfl, rfl⟩
    go_wp2
    go_ret
    exact ⟨ret_int (by omega), rfl⟩
  · have hpi : p ≤ i := hge rfl
    have hq : wrap64 ((i : Int) - p) = ((i - p : Nat) : Int) := by rw [IntWalk.wrap64_in _ (by omega)]; omega
    have hq2 : wrap64 (((i - p : Nat) : Int) + p) = ((i - p + p : Nat) : Int) := by rw [IntWalk.wrap64_in _ (by omega)]; omega
    rw [if_pos rfl, if_neg (by decide)]
    clear hge
    go_enter Try.func55, Try.ntmps55
    go_wp2_with (fail)
    refine (HBT.out w).mono ?_
    rintro e w2 ⟨rfl, rfl⟩
    go_wp2
    go_ret
    exact ⟨ret_int (by omega), rfl⟩
  · have hpi : p ≤ i := hge rfl
    have hq : wrap64 ((i : Int) - p) = ((i - p : Nat) : Int) := by rw [IntWalk.wrap64_in _ (by omega)]; omega
    have hq2 : wrap64 (((i - p : Nat) : Int) + p) = ((i - p + p : Nat) : Int) := by rw [IntWalk.wrap64_in _ (by omega)]; omega
    rw [if_pos rfl]
    clear hge
    go_enter Try.func55, Try.ntmps55
    go_wp2_with (fail)
    refine (HBT.out w).mono ?_
    rintro e w2 ⟨rfl, rfl⟩
    go_wp2
    go_ret
    exact ⟨ret_int (by omega), rfl⟩
theorem rcount_any (n : Int) (w : World) : Calls Try.prog 65 #[.int .i64 n] w fun e w' => e = .returned (.int .i64 (cntE n)) ∧ w = w' := by
  by_cases h0 : n < 0
  · have hf : cntE n = 1 := by unfold cntE; rw [if_pos h0]
    rw [hf]
    clear hf
    go_enter Try.func65, Try.ntmps65
    go_wp2
    go_ret
    exact ⟨rfl, rfl⟩
  · by_cases h1 : n > 16
    · have hf : cntE n = 6 := by unfold cntE; rw [if_neg h0, if_pos (by omega)]
      rw [hf]
      clear hf
      go_enter Try.func65, Try.ntmps65
      go_wp2
      go_ret
      exact ⟨rfl, rfl⟩
    · have hf : cntE n = 0 := by unfold cntE; rw [if_neg h0, if_neg (by omega)]
      rw [hf]
      clear hf
      go_enter Try.func65, Try.ntmps65
      go_wp2
      go_ret
      exact ⟨rfl, rfl⟩
end Go.Proofs.Ytlggmoghgoeiiaa


/- Truth tables: Form of the reference. -/
namespace Go.Proofs.Ytlggmoghgoeiiaa
open Go.RowKit Go.Tk

set_option maxHeartbeats 1000000 in
theorem rForm_any (N : Int) (A : Option Addr) (m C : Nat) (ws : List Nat) (w : World) (h : WL w A m ws) (hb : Small ws) :
    Calls Try.prog 24 #[.agg #[.int .i64 N, .slice A m C]] w fun e w' => e = .returned (.bool (frm N ws)) ∧ Same w w' := by
  obtain rfl := h.len
  have H := Lib.hid h
  clear h
  obtain ⟨r, hr⟩ : ∃ r, frm N ws = r := ⟨_, rfl⟩
  rw [hr]
  by_cases h0 : N < 0
  · have hf : r = false := by rw [← hr]; exact frm_false (.inl h0)
    subst hf
    clear hr
    go_enter Try.func24, Try.ntmps24
    go_upto_region 1 with fail
    refine wp_quiet (by kernel_rfl) (by kernel_rfl) ?_
    repeat (any_goals (first | go_big_quiet_step (fail) | quiet_step (fail)))
    refine wpQuiet_nil ?_
    rintro _ ⟨q, rfl⟩
    go_wp2
    go_ret
    exact ⟨rfl, ((Frm.refl _ _).alloc _).trans (more_same _ q) (fun _ _ h => h)⟩
  by_cases h1 : N > 16
  · have hf : r = false := by rw [← hr]; exact frm_false (.inr (.inl (by omega)))
    subst hf
    clear hr
    go_enter Try.func24, Try.ntmps24
    go_upto_region 1 with fail
    refine wp_quiet (by kernel_rfl) (by kernel_rfl) ?_
    repeat (any_goals (first | go_big_quiet_step (fail) | quiet_step (fail)))
    refine wpQuiet_nil ?_
    rintro _ ⟨q, rfl⟩
    go_wp2
    go_ret
    exact ⟨rfl, ((Frm.refl _ _).alloc _).trans (more_same _ q) (fun _ _ h => h)⟩
  obtain ⟨n, rfl⟩ : ∃ n : Nat, N = n := ⟨N.toNat, by omega⟩
  have hN : n ≤ 16 := by omega
  by_cases hl : ws.length = nw n
  · have hnp := nw_pos n
    have hnl := nw_le hN
    have hWd := fun w => rwords_any n w hN
    obtain ⟨x, hx⟩ : ∃ x, ws[0]? = some x := ⟨_, List.getElem?_eq_getElem (by omega)⟩
    have hxb := hb.at1 hx
    have hr2 : (decide (6 ≤ (n : Int)) || decide (x < 2 ^ 2 ^ n)) = r := by
      rw [← hr]
      unfold frm
      rw [show ws.getD 0 0 = x by rw [List.getD_eq_getElem?_getD, hx]; rfl, Int.toNat_natCast]
      have e1 : decide ((0 : Int) ≤ n ∧ (n : Int) ≤ 16 ∧ ws.length = nw n) = true := by simp [hl]; omega
      rw [e1, Bool.true_and]
    obtain ⟨k, hk⟩ : ∃ k, nw n = k := ⟨_, rfl⟩
    rw [hk] at hl hnp hnl hWd
    obtain ⟨b, off, rfl, hbl, hc⟩ := H.out.at1 hx
    have hidx2 : (0 : Int) < k := by omega
    have HWD := Lib.hid hWd
    have HR2 := Lib.hid hr2
    have HH := Lib.hid hl
    clear hr hk hx hWd hr2
    rw [hl]
    clear hl
    by_cases h6 : 6 ≤ n
    · have hf : r = true := by rw [← HR2.out]; simp; omega
      subst hf
      have h6' : (n : Int) ≥ 6 := by omega
      go_enter Try.func24, Try.ntmps24
      go_upto_region 1 with fail
      refine wp_quiet (by kernel_rfl) (by kernel_rfl) ?_
      repeat (any_goals (first | go_big_quiet_step ((go_at_call 61; exact quiet_call ((HWD.out _).mono fun e w' h => ⟨h.1, h.2 ▸ Frm.refl _ _⟩))) | quiet_step ((go_at_call 61; exact quiet_call ((HWD.out _).mono fun e w' h => ⟨h.1, h.2 ▸ Frm.refl _ _⟩)))))
      refine wpQuiet_nil ?_
      rintro wz ⟨q, hq⟩
      have hsz : Same w wz := by rw [hq]; exact ((Frm.refl _ _).alloc _).trans (more_same _ q) (fun _ _ h => h)
      have hB := (Blk.new w 24 #[.int .i64 n, .slice (some ⟨b, off, none⟩) k C]).frm (more_same _ q) id
      rw [← hq] at hB
      have hc0 : wz.cell? ⟨w.heap.size, 0, none⟩ = some (.int .i64 n) := hB.cell 0
      have hc1 : wz.cell? ⟨w.heap.size, 1, none⟩ = some (.slice (some ⟨b, off, none⟩) k C) := hB.cell 1
      have hcl := hB.lt
      have hcz : wz.cell? ⟨b, off, none⟩ = some (.int .u64 x) := (hsz.cell (p := ⟨b, off, none⟩) hbl id).trans hc
      have hbz : b < wz.heap.size := by have := hsz.size; omega
      have HSZ := Lib.hid hsz
      clear hq hc hbl hB hsz
      go_wp2
      go_ret
      exact ⟨rfl, HSZ.out⟩
    · have hpn : 2 ^ n ≤ 2 ^ 5 := Nat.pow_le_pow_right (by omega) (by omega)
      have hf : decide (x < 2 ^ 2 ^ n) = r := by rw [← HR2.out, show decide (6 ≤ (n : Int)) = false by simp; omega]; rfl
      have h6' : ¬ (n : Int) ≥ 6 := by omega
      have hpp : 2 ^ 2 ^ n ≤ 2 ^ 32 := Nat.pow_le_pow_right (by omega) hpn
      have h3 : (2 : Int) ^ n = ((2 ^ n : Nat) : Int) := pow_int n
      have hn0 : (0 : Int) ≤ n := by omega
      have hm : min n 64 = n := by omega
      generalize 2 ^ n = p at *
      have hm2 : min p 64 = p := by omega
      have h4 : (2 : Int) ^ p = ((2 ^ p : Nat) : Int) := pow_int p
      generalize 2 ^ p = P at *
      have hu3 : IntKind.u64.wrap ((2 : Int) ^ n) = (p : Int) := by rw [h3]; exact IntWalk.u64_in _ (by omega)
      have hu4 : IntKind.u64.wrap ((2 : Int) ^ p) = (P : Int) := by rw [h4]; exact IntWalk.u64_in _ (by omega)
      have HF := Lib.hid hf
      clear HR2 hf h3 h4 hpp hpn
      go_enter Try.func24, Try.ntmps24
      go_upto_region 1 with fail
      refine wp_quiet (by kernel_rfl) (by kernel_rfl) ?_
      repeat (any_goals (first | go_big_quiet_step ((go_at_call 61; exact quiet_call ((HWD.out _).mono fun e w' h => ⟨h.1, h.2 ▸ Frm.refl _ _⟩))) | quiet_step ((go_at_call 61; exact quiet_call ((HWD.out _).mono fun e w' h => ⟨h.1, h.2 ▸ Frm.refl _ _⟩)))))
      refine wpQuiet_nil ?_
      rintro wz ⟨q, hq⟩
      have hsz : Same w wz := by rw [hq]; exact ((Frm.refl _ _).alloc _).trans (more_same _ q) (fun _ _ h => h)
      have hB := (Blk.new w 24 #[.int .i64 n, .slice (some ⟨b, off, none⟩) k C]).frm (more_same _ q) id
      rw [← hq] at hB
      have hc0 : wz.cell? ⟨w.heap.size, 0, none⟩ = some (.int .i64 n) := hB.cell 0
      have hc1 : wz.cell? ⟨w.heap.size, 1, none⟩ = some (.slice (some ⟨b, off, none⟩) k C) := hB.cell 1
      have hcl := hB.lt
      have hcz : wz.cell? ⟨b, off, none⟩ = some (.int .u64 x) := (hsz.cell (p := ⟨b, off, none⟩) hbl id).trans hc
      have hbz : b < wz.heap.size := by have := hsz.size; omega
      have HSZ := Lib.hid hsz
      clear hq hc hbl hB hsz
      go_upto_region 5 with fail
      refine wp_quiet (by kernel_rfl) (by kernel_rfl) ?_
      repeat (any_goals (first | go_big_quiet_step (fail) | quiet_step (fail)))
      refine wpQuiet_nil ?_
      rintro _ ⟨q2, rfl⟩
      go_wp2
      go_ret
      exact ⟨ret_bool HF.out, HSZ.out.trans (more_same _ q2) (fun _ _ h => h)⟩
  · have hf : r = false := by rw [← hr]; exact frm_false (.inr (.inr hl))
    subst hf
    have hl' : ((ws.length : Int) != ((nw n : Nat) : Int)) = true := by simp; omega
    clear hr
    go_enter Try.func24, Try.ntmps24
    go_upto_region 1 with fail
    refine wp_quiet (by kernel_rfl) (by kernel_rfl) ?_
    repeat (any_goals (first | go_big_quiet_step ((go_at_call 61; exact quiet_call ((rwords_any _ _ hN).mono fun e w' h => ⟨h.1, h.2 ▸ Frm.refl _ _⟩))) | quiet_step ((go_at_call 61; exact quiet_call ((rwords_any _ _ hN).mono fun e w' h => ⟨h.1, h.2 ▸ Frm.refl _ _⟩)))))
    refine wpQuiet_nil ?_
    rintro _ ⟨q, rfl⟩
    go_wp2
    go_ret
    exact ⟨rfl, ((Frm.refl _ _).alloc _).trans (more_same _ q) (fun _ _ h => h)⟩
end Go.Proofs.Ytlggmoghgoeiiaa


/- Truth tables: the reference's Values. -/
namespace Go.Tk
/-- values in a row -/
def vals (M : Nat) (F : Nat → Bool) : List Bool := (List.range M).map F
def mixF (G F : Nat → Bool) (k : Nat) : Nat → Bool := fun i => if i < k then G i else F i
theorem vals_len (M : Nat) (F : Nat → Bool) : (vals M F).length = M := by simp [vals]
theorem vals_get {M i : Nat} {F : Nat → Bool} (h : i < M) : (vals M F)[i]? = some (F i) := by simp [vals, h]
theorem vals_congr {M : Nat} {F G : Nat → Bool} (h : ∀ i, i < M → F i = G i) : vals M F = vals M G := by
  unfold vals
  apply List.map_congr_left
  intro i hi
  exact h i (List.mem_range.1 hi)
theorem vals_zero (M : Nat) (G F : Nat → Bool) : vals M (mixF G F 0) = vals M F := vals_congr fun i _ => by unfold mixF; rw [if_neg (by omega)]
theorem vals_false (M : Nat) : vals M (fun _ => false) = List.replicate M false := by
  unfold vals
  simp [List.map_const']
theorem vals_full (M : Nat) (G F : Nat → Bool) : vals M (mixF G F M) = vals M G := vals_congr fun i h => by unfold mixF; rw [if_pos h]
theorem vals_set {M k : Nat} {G F : Nat → Bool} (h : k < M) : (vals M (mixF G F k)).set k (G k) = vals M (mixF G F (k + 1)) := by
  apply List.ext_getElem?
  intro i
  rcases Nat.lt_or_ge i M with hi | hi
  · rw [List.getElem?_set, vals_len, vals_get hi, vals_get hi]
    split
    · rename_i he; subst he; simp [mixF]
    · rename_i he
      congr 1
      unfold mixF
      by_cases h1 : i < k
      · rw [if_pos h1, if_pos (by omega)]
      · rw [if_neg h1, if_neg (by omega)]
  · rw [List.getElem?_eq_none (by simp [vals_len, hi]), List.getElem?_eq_none (by rw [vals_len]; exact hi)]
theorem mix_at (G F : Nat → Bool) (k : Nat) : mixF G F k k = F k := by unfold mixF; rw [if_neg (by omega)]
end Go.Tk
namespace Go.Proofs.Ytlggmoghgoeiiaa
open Go.RowKit Go.Tk

abbrev OwnB (w : World) (A : Option Addr) (N C : Nat) (bs : List Bool) : Prop := Row1 w 4 (fun b : Bool => .bool b) A N C bs
abbrev BL (w : World) (A : Option Addr) (n : Nat) (bs : List Bool) : Prop := Sl w 1 (fun b : Bool => [.bool b]) A n bs
theorem BL.at1 {w : World} {A : Option Addr} {n : Nat} {bs : List Bool} (h : BL w A n bs) {i : Nat} {x : Bool} (hi : bs[i]? = some x) : ∃ b off, A = some ⟨b, off, none⟩ ∧ b < w.heap.size ∧ w.cell? ⟨b, off + i, none⟩ = some (.bool x) := by
  obtain ⟨b, off, h1, h2, h3⟩ := h.get i x hi
  refine ⟨b, off, h1, h2, ?_⟩
  have := h3 0 (by omega)
  simpa using this
/-- a row of booleans of its own -/
def NewB (w : World) (bs : List Bool) (A : Option Addr) (C : Nat) (w' : World) : Prop := OwnB w' A bs.length C bs ∧ Fresh w.heap.size A ∧ Same w w'
theorem info_bool : (Try.prog.info? 4).map (fun i => (i.zero, i.size, i.bytes)) = some (some (.bool false), 1, 1) := by kernel_rfl
theorem pow_lt_shift {n : Nat} (h : n ≤ 16) : wrap64 ((2 : Int) ^ n) = ((2 ^ n : Nat) : Int) := by
  have hp := pow_le16 h
  rw [pow_int]
  generalize 2 ^ n = p at hp
  exact IntWalk.wrap64_in _ (by omega)
theorem pow_lt_shift2 {n : Nat} (h : n ≤ 16) : IntKind.i64.wrap ((2 : Int) ^ n) = ((2 ^ n : Nat) : Int) := by
  have hp := pow_le16 h
  rw [pow_int]
  generalize 2 ^ n = p at hp
  exact IntWalk.i64_in _ (by omega)
theorem bit_val (x r : Nat) : (((x / 2 ^ r % 2 : Nat) : Int) == 1) = x.testBit r := by
  rw [testBit_dm, Bool.eq_iff_iff, beq_iff_eq, decide_eq_true_eq]
  omega
set_option maxRecDepth 100000 in
set_option maxHeartbeats 4000000 in
theorem values_any (n C : Nat) (A : Option Addr) (ws : List Nat) (w : World) (h : TbOk w ⟨n, A, C, ws⟩) (hf : FormN n ws) :
    Calls Try.prog 54 #[.agg #[.int .i64 n, .slice A ws.length C]] w fun e w' => ∃ A' C', e = .returned (.slice A' (2 ^ n) C') ∧ NewB w (vals (2 ^ n) (vb ws)) A' C' w' := by
  have hn := hf.n16
  have hsw := pow_lt_shift hn
  have hsw2 := pow_lt_shift2 hn
  have hp16 := pow_le16 hn
  have hdl : ∀ i, i < 2 ^ n → ∃ x, ws[i / 64]? = some x := fun i hi => ⟨_, List.getElem?_eq_getElem (by rw [hf.len]; exact div_lt_nw hi)⟩
  have hn0 : (0 : Int) ≤ n := by omega
  have hlen : 1 ≤ ws.length := by rw [hf.len]; exact nw_pos n
  have hmn : min n 64 = n := by omega
  obtain ⟨M, hM⟩ : ∃ M, 2 ^ n = M := ⟨_, rfl⟩
  rw [hM] at hsw hsw2 hp16 hdl ⊢
  clear hM
  have hmk := fun w => run_make_n (P := Try.prog) Try.underlying26 info_bool .i64 .i64 M (show 1 * M ≤ 281474976710656 by omega) (show M ≤ 9223372036854775807 by omega) w
  have hset : ∀ k, k < M → (vals M (mixF (vb ws) (fun _ => false) k)).set k (vb ws k) = vals M (mixF (vb ws) (fun _ => false) (k + 1)) := fun k h => vals_set h
  have hfull := vals_full M (vb ws) (fun _ => false)
  have HSET := Lib.hid hset
  have HFULL := Lib.hid hfull
  have HDL := Lib.hid hdl
  have H := Lib.hid h
  have HLEN := Lib.hid hlen
  clear h hf hset hfull hdl hlen
  go_enter Try.func54, Try.ntmps54
  go_upto_region 2 with fail
  refine wp_world fun w1 hw1 => ?_
  have hs1 : Same w w1 := by rw [hw1]; exact ((Frm.refl _ _).alloc _).alloc _
  have hO : OwnB w1 (some ⟨w.heap.size + 1, 0, none⟩) M M (vals M (mixF (vb ws) (fun _ => false) 0)) := by
    rw [vals_zero, vals_false, hw1]
    have := Own.ofMade (m := 1) (w.alloc (.cells #[.int .i64 n, .slice A ws.length C] 24)) 4 (fun b : Bool => [.bool b]) (fun _ => rfl) (by decide) false M (show M ≤ 9223372036854775807 by omega) rfl
    simpa using this
  have hB : Blk w1 w.heap.size 24 #[.int .i64 n, .slice A ws.length C] := by rw [hw1]; exact (Blk.new w _ _).alloc _
  clear hw1 hmk
  obtain ⟨D, hD⟩ : ∃ D, w.heap.size + 1 = D := ⟨_, rfl⟩
  rw [hD] at hO ⊢
  have hDn : w.heap.size ≠ D := by omega
  have hDl : w.heap.size ≤ D := by omega
  clear hD
  have HS1 := Lib.hid hs1
  have HO := Lib.hid hO
  have HB := Lib.hid hB
  clear hs1 hO hB
  go_wp2
  go_loopw [11] (fun i wr => ∃ k : Nat, k ≤ M ∧ i = .int .i64 k ∧ Same w wr ∧ Blk wr w.heap.size 24 #[.int .i64 n, .slice A ws.length C] ∧ OwnB wr (some ⟨D, 0, none⟩) M M (vals M (mixF (vb ws) (fun _ => false) k))) (fun i _ => M - (intOf i).toNat)
  case atStart => exact ⟨0, by omega, rfl, HS1.out, HB.out, HO.out⟩
  case round =>
    clear HS1 HB HO
    obtain ⟨k, hk, rfl, hs, hB, hO⟩ := hrel
    by_cases hlt : k < M
    · have hk0 : (0 : Int) ≤ k := by omega
      have hk1 : (k : Int) < M := by omega
      obtain ⟨x, hx⟩ := HDL.out k hlt
      have hwl := (Sl.same H.out.wl hs)
      obtain ⟨b, off, hA, hbl, hc⟩ := WL.at1 hwl hx
      have hxs := H.out.small.at1 hx
      have hvb : x.testBit (k % 64) = vb ws k := by unfold vb; rw [List.getD_eq_getElem?_getD, hx]; rfl
      have hkl : k / 64 < ws.length := lt_of_get hx
      have hbv := bit_val x (k % 64)
      rw [hvb] at hbv
      have hvbs : ∃ v, vb ws k = v := ⟨_, rfl⟩
      obtain ⟨v, hv⟩ := hvbs
      have hst := Own.put1 hO (i := k) (by rw [vals_len]; exact hlt) (vb ws k)
      rw [HSET.out k hlt, hv] at hst
      rw [hv] at hbv
      simp only at hA
      subst hA
      have hc0 : wr.cell? ⟨w.heap.size, 1, none⟩ = some (.slice (some ⟨b, off, none⟩) ws.length C) := hB.cell 1
      have hBl := hB.lt
      have hfD := Own.free hO k
      obtain ⟨vo, hvo⟩ : ∃ v, (vals M (mixF (vb ws) (fun _ => false) k))[k]? = some v := ⟨_, vals_get hlt⟩
      obtain ⟨sb, hsb, hDl2, hcD⟩ := Own.at1 (c := fun b : Bool => .bool b) hO hvo
      injection hsb with hsb
      injection hsb with hsb
      subst hsb
      have hm64 : min (k % 64) 64 = k % 64 := by omega
      have hq1 : x / 2 ^ (k % 64) ≤ x := Nat.div_le_self _ _
      have hkk : k % 64 < 64 := by omega
      have hn1 : (k : Int) / 64 = ((k / 64 : Nat) : Int) := by omega
      have hn2 : (k : Int) % 64 = ((k % 64 : Nat) : Int) := by omega
      have hpw : ((x : Nat) : Int) / 2 ^ (k % 64) = ((x / 2 ^ (k % 64) : Nat) : Int) := by rw [pow_int]; exact (Int.natCast_ediv _ _).symm
      have hbx : k / 64 < ws.length := hkl
      have HS := Lib.hid hs
      have HBw := Lib.hid hB
      have HOw := Lib.hid hO
      have HST := Lib.hid hst
      clear hs hB hO hst hx hvb hwl hv hvo
      generalize k % 64 = r at *
      generalize x / 2 ^ r = y at *
      have hbv2 : ((y : Int) % 2 == 1) = v := by rw [← hbv]; simp
      have hy : y < 18446744073709551616 := by omega
      generalize k / 64 = qq at *
      go_upto_region 5 with fail
      refine wp_read 14 ?_
      simp only [List.take_succ_cons, List.take_zero, List.drop_succ_cons, List.drop_zero]
      repeat (any_goals (first | go_big_quiet_step (fail) | quiet_step (fail)))
      refine wpQuiet_nil ?_
      clear hbv hbv2 hpw hn1 hn2
      go_wp2
      go_roundw
      case rel => exact ⟨k + 1, by omega, by go_num, HS.out.setNew k _ hDl, HBw.out.far (p := ⟨D, k, none⟩) hDn _, HST.out⟩
      case measure => simp [intOf]; omega
    · obtain rfl : k = M := by omega
      rw [HFULL.out] at hO
      have HS := Lib.hid hs
      have HOw := Lib.hid hO
      clear hs hB hO
      go_wp2
      go_ret
      exact ⟨_, _, rfl, by rw [vals_len]; exact HOw.out, fresh_some hDl, HS.out⟩
end Go.Proofs.Ytlggmoghgoeiiaa


/- Truth tables: the reference's Of. -/
namespace Go.Proofs.Ytlggmoghgoeiiaa
open Go.RowKit Go.Tk

set_option maxRecDepth 100000 in
set_option maxHeartbeats 4000000 in
theorem rof_any (n C : Nat) (A : Option Addr) (F : Nat → Bool) (w : World) (hn : n ≤ 16) (h : BL w A (2 ^ n) (vals (2 ^ n) F)) :
    Calls Try.prog 56 #[.int .i64 n, .slice A (2 ^ n) C] w (RetT w n (tab n F)) := by
  have hmk := fun w => run_make_n (P := Try.prog) Try.underlying22 info_u64 .i64 .i64 (nw n) (show 8 * nw n ≤ 281474976710656 by have := nw_le hn; omega) (show nw n ≤ 9223372036854775807 by have := nw_le hn; omega) w
  have hnl := nw_le hn
  have hwd := fun w => rwords_any n w hn
  have hp16 := pow_le16 hn
  have hfull := part_full n F
  have hdl : ∀ i, i < 2 ^ n → i / 64 < nw n := fun i hi => div_lt_nw hi
  have hput : ∀ k, k < 2 ^ n → F k = true → ∃ x, (Tk.part n F k)[k / 64]? = some x ∧ x + 2 ^ (k % 64) < 18446744073709551616 ∧ (Tk.part n F k).set (k / 64) (x + 2 ^ (k % 64)) = Tk.part n F (k + 1) := fun k hk hF =>
    ⟨_, part_get (div_lt_nw hk), by rw [word_put hk hF]; exact word_lt _ _ _, part_put hk hF⟩
  have hsame : ∀ k, F k = false → Tk.part n F (k + 1) = Tk.part n F k := fun k hF => part_same hF
  have hz := part_zero n F
  have hll := part_len n F
  obtain ⟨W, hW⟩ : ∃ W, tab n F = W := ⟨_, rfl⟩
  rw [hW] at hfull ⊢
  have hWl : W.length = nw n := by rw [← hW]; exact tab_len n F
  obtain ⟨K, hK⟩ : ∃ K, nw n = K := ⟨_, rfl⟩
  rw [hK] at hmk hnl hwd hdl hz hll hWl
  obtain ⟨M, hM⟩ : ∃ M, 2 ^ n = M := ⟨_, rfl⟩
  rw [hM] at hp16 hfull hdl hput h ⊢
  have HFULL := Lib.hid hfull
  have HDL := Lib.hid hdl
  have HPUT := Lib.hid hput
  have HSAME := Lib.hid hsame
  have HZ := Lib.hid hz
  have HLL := Lib.hid hll
  have HWL := Lib.hid hWl
  have HWD := Lib.hid hwd
  have H := Lib.hid h
  clear hM hK hW hfull hdl hput hsame hz hll hWl hwd h
  go_enter Try.func56, Try.ntmps56
  go_wp2_with (fail)
  refine call_world fun w1 hw1 => ?_
  refine (HWD.out w1).mono ?_
  rintro e w2 ⟨rfl, rfl⟩
  go_upto_region 2 with fail
  refine wp_world fun wb hwb => ?_
  subst hw1
  have hsb : Same w wb := by rw [hwb]; exact (((Frm.refl _ _).alloc _).alloc _).alloc _
  have hBR : Blk wb w.heap.size 24 #[.int .i64 0, .slice none 0 0] := by rw [hwb]; exact ((Blk.new w _ _).alloc _).alloc _
  have hBT : Blk wb (w.heap.size + 1 + 1) 24 #[.int .i64 n, .slice (some ⟨w.heap.size + 1, 0, none⟩) K K] := by
    rw [hwb]
    have := Blk.new ((w.alloc (.cells #[.int .i64 0, .slice none 0 0] 24)).alloc (.cells (madeCells #[.int .u64 0] K) 38)) 24 #[.int .i64 n, .slice (some ⟨w.heap.size + 1, 0, none⟩) K K]
    simpa using this
  have hOD : OwnW wb (some ⟨w.heap.size + 1, 0, none⟩) K K (Tk.part n F 0) := by
    rw [hwb, HZ.out]
    have := Own.ofMade (m := 1) (w.alloc (.cells #[.int .i64 0, .slice none 0 0] 24)) 38 ucell (fun _ => rfl) (by decide) 0 K (show K ≤ 9223372036854775807 by omega) rfl
    have h2 := Own.frm this ((Frm.refl (fun _ => False) _).alloc (.cells #[.int .i64 n, .slice (some ⟨w.heap.size + 1, 0, none⟩) K K] 24)) (fun _ _ => id)
    simpa [ucell] using h2
  clear hwb hmk
  obtain ⟨T, hT⟩ : ∃ T, w.heap.size + 1 + 1 = T := ⟨_, rfl⟩
  rw [hT] at hBT ⊢
  obtain ⟨D, hD⟩ : ∃ D, w.heap.size + 1 = D := ⟨_, rfl⟩
  rw [hD] at hBT hOD ⊢
  have hnDT : D ≠ T := by omega
  have hnRT : w.heap.size ≠ T := by omega
  have hnRD : w.heap.size ≠ D := by omega
  have hwD : w.heap.size ≤ D := by omega
  have hwT : w.heap.size ≤ T := by omega
  clear hD hT
  have HBR := Lib.hid hBR
  have HBT := Lib.hid hBT
  have HOD := Lib.hid hOD
  have HSB := Lib.hid hsb
  clear hBR hBT hOD hsb
  go_wp2
  go_loopw [15] (fun i wr => ∃ k : Nat, k ≤ M ∧ i = .int .i64 k ∧ Same w wr ∧ Blk wr w.heap.size 24 #[.int .i64 0, .slice none 0 0] ∧ Blk wr T 24 #[.int .i64 n, .slice (some ⟨D, 0, none⟩) K K] ∧ OwnW wr (some ⟨D, 0, none⟩) K K (Tk.part n F k)) (fun i _ => M - (intOf i).toNat)
  case atStart => exact ⟨0, by omega, rfl, HSB.out, HBR.out, HBT.out, HOD.out⟩
  case round =>
    clear HBR HBT HOD HSB
    obtain ⟨k, hk, rfl, hs, hBR, hBT, hOD⟩ := hrel
    by_cases hlt : k < M
    · have hk1 : (k : Int) < M := by omega
      have hk0 : (0 : Int) ≤ k := by omega
      obtain ⟨v, hv⟩ : ∃ v, F k = v := ⟨_, rfl⟩
      obtain ⟨bq, offq, hA, hbl, hcq⟩ := BL.at1 (Sl.same H.out hs) (show (vals M F)[k]? = some v by rw [vals_get hlt, hv])
      subst hA
      cases v with
      | true =>
        obtain ⟨x, hx, hxl, hxs⟩ := HPUT.out k hlt hv
        have hdk := HDL.out k hlt
        have hst := fun (w' : World) (hs' : Same wr w') => Own.put1 (c := fun x : Nat => .int .u64 (x : Int)) (Own.frm hOD hs' (fun _ _ => id)) (i := k / 64) (by rw [HLL.out]; exact hdk) (x + 2 ^ (k % 64))
        rw [hxs] at hst
        obtain ⟨sb, hsb, hDl, hcD⟩ := hOD.at1 (c := fun x : Nat => .int .u64 (x : Int)) hx
        injection hsb with hsb
        injection hsb with hsb
        subst hsb
        have hm64 : min (k % 64) 64 = k % 64 := by omega
        have hkk : k % 64 < 64 := by omega
        have hn1 : (k : Int) / 64 = ((k / 64 : Nat) : Int) := by omega
        have hn2 : (k : Int) % 64 = ((k % 64 : Nat) : Int) := by omega
        have h2p : (2 : Int) ^ (k % 64) = ((2 ^ (k % 64) : Nat) : Int) := pow_int _
        have HS := Lib.hid hs
        have HBRw := Lib.hid hBR
        have HBTw := Lib.hid hBT
        have HOD := Lib.hid hOD
        have HST := Lib.hid hst
        have hcT : wr.cell? ⟨T, 1, none⟩ = some (.slice (some ⟨D, 0, none⟩) K K) := hBT.cell 1
        have hTl := hBT.lt
        clear hs hBR hBT hOD hst hx hxs hv
        generalize k % 64 = r at *
        generalize k / 64 = qq at *
        generalize 2 ^ r = p at *
        have hsw : wrap64 ((2 : Int) ^ r) = wrap64 (p : Int) := by rw [h2p]
        have hsw2 : IntKind.u64.wrap ((2 : Int) ^ r) = (p : Int) := by rw [h2p]; exact IntWalk.u64_in _ (by omega)
        have hsum : IntKind.u64.wrap ((x : Int) + p) = ((x + p : Nat) : Int) := by rw [IntWalk.u64_in _ (by omega)]; simp
        have hqk : (qq : Int) < K := by omega
        have hq0 : (0 : Int) ≤ qq := by omega
        clear h2p
        go_upto_region 6 with fail
        refine wp_quiet_tail 11 (by kernel_rfl) (by kernel_rfl) ?_
        simp only [List.take_succ_cons, List.take_zero, List.drop_succ_cons, List.drop_zero]
        repeat (any_goals (first | go_big_quiet_step (fail) | quiet_step (fail)))
        refine wpQuiet_nil ?_
        rintro wz ⟨q, hq⟩
        have hsz : Same wr wz := by rw [hq]; exact more_same _ q
        have hfz := Own.free (Own.frm HOD.out hsz (fun _ _ => id)) qq
        have hcz := (hsz.cell (p := ⟨D, qq, none⟩) hDl id).trans hcD
        have HSZ := Lib.hid ((HS.out.trans hsz (fun _ _ h => h)).setNew (g := D) qq (.int .u64 ((x + p : Nat) : Int)) hwD)
        have HBRz := Lib.hid ((HBRw.out.frm hsz id).far (p := ⟨D, qq, none⟩) hnRD (.int .u64 ((x + p : Nat) : Int)))
        have HBTz := Lib.hid ((HBTw.out.frm hsz id).far (p := ⟨D, qq, none⟩) (Ne.symm hnDT) (.int .u64 ((x + p : Nat) : Int)))
        have HOZ := Lib.hid (HST.out wz hsz)
        have hDz : D < wz.heap.size := by have := hsz.size; omega
        clear hq hsz hcD hDl hcT hTl hcq hbl hm64 hn1 hn2 hsw hsw2
        go_wp2
        go_roundw
        case rel => exact ⟨k + 1, by omega, by go_num, HSZ.out, HBRz.out, HBTz.out, HOZ.out⟩
        case measure => simp [intOf]; omega
      | false =>
        have hsm := HSAME.out k hv
        have HS := Lib.hid hs
        have HBRw := Lib.hid hBR
        have HBTw := Lib.hid hBT
        rw [← hsm] at hOD
        have HOD := Lib.hid hOD
        clear hs hBR hBT hOD hv hsm
        go_wp2
        go_roundw
        case rel => exact ⟨k + 1, by omega, by go_num, HS.out, HBRw.out, HBTw.out, HOD.out⟩
        case measure => simp [intOf]; omega
    · obtain rfl : k = M := by omega
      rw [HFULL.out] at hOD
      have HS := Lib.hid hs
      have HBR := Lib.hid hBR
      have HBT := Lib.hid hBT
      have HOD := Lib.hid hOD
      have hcT0 : wr.cell? ⟨T, 0, none⟩ = some (.int .i64 n) := hBT.cell 0
      have hcT : wr.cell? ⟨T, 1, none⟩ = some (.slice (some ⟨D, 0, none⟩) K K) := hBT.cell 1
      have hTl := hBT.lt
      have hRl := hBR.lt
      have hfR0 := hBR.free 0
      have hfR1 := hBR.free 1
      have hcR0 : wr.cell? ⟨w.heap.size, 0, none⟩ = some (.int .i64 0) := hBR.cell 0
      have hcR1 : wr.cell? ⟨w.heap.size, 1, none⟩ = some (.slice none 0 0) := hBR.cell 1
      clear hs hBR hBT hOD
      go_wp2
      refine wp_post fun we hwe => ?_
      have hBE : Blk we w.heap.size 24 #[.int .i64 n, .slice (some ⟨D, 0, none⟩) K K] := by
        rw [hwe]
        have := (HBR.out.set 0 (.int .i64 n)).set 1 (.slice (some ⟨D, 0, none⟩) K K)
        simpa using this
      have hOE : OwnW we (some ⟨D, 0, none⟩) K K W := by
        rw [hwe]
        exact (Own.far (p := ⟨w.heap.size, 0, none⟩) HOD.out (fun a ha h => by injection ha with ha; subst ha; exact hnRD h.symm) _).far (p := ⟨w.heap.size, 1, none⟩) (fun a ha h => by injection ha with ha; subst ha; exact hnRD h.symm) _
      have hSE : Same w we := by rw [hwe]; exact (HS.out.setNew 0 _ (Nat.le_refl _)).setNew 1 _ (Nat.le_refl _)
      have hc0 : we.cell? ⟨w.heap.size, 0, none⟩ = some (.int .i64 n) := hBE.cell 0
      have hc1 : we.cell? ⟨w.heap.size, 1, none⟩ = some (.slice (some ⟨D, 0, none⟩) K K) := hBE.cell 1
      clear hwe hBE
      refine bodyPost_ret (v := .agg #[.int .i64 n, .slice (some ⟨D, 0, none⟩) K K]) (by simp [results, Try.results56, go_sem, hc0, hc1]) rfl ?_
      refine ⟨some ⟨D, 0, none⟩, K, by rw [HWL.out], ?_, fresh_some hwD, hSE⟩
      rw [HWL.out]
      exact hOE
end Go.Proofs.Ytlggmoghgoeiiaa
