/- The contracts of the arena's Set, Up, Down and Count. -/
import Derived.Test.YtkajgopkdolhcaaArFree
namespace Go.Proofs.Ytkajgopkdolhcaa
open Go.RowKit Go.Tk

theorem set_self {α : Type} {l : List α} {n : Nat} {x : α} (h : l[n]? = some x) : l.set n x = l := by
  apply List.ext_getElem?
  intro i
  rw [List.getElem?_set]
  have := lt_of_get h
  by_cases hi : n = i
  · subst hi; rw [if_pos rfl, if_pos this, h]
  · rw [if_neg hi]
/-- the count at a place -/
def cntN (ls : List Pl) (r : Int) : Int := match ls[r.toNat]? with | some p => if p.t then p.c else 0 | none => 0
section
variable {w : World} {g : Nat} {pl us : Int} {ls : List Pl} {fr : List Int} {A : Option Addr} {C : Nat} {A' : Option Addr} {C' : Nat}
theorem ASt.setOne {sb r j : Nat} {p p' : Pl} {u : Value} (h : ASt w g pl us ls fr (some ⟨sb, 0, none⟩) C A' C') (hp : ls[r]? = some p) (hj : j < 5) (hc : p'.cells = p.cells.set j u) :
    ASt (w.setCell ⟨sb, r * 5 + j, none⟩ u) g pl us (ls.set r p') fr (some ⟨sb, 0, none⟩) C A' C' ∧ Frm (AFp g (some ⟨sb, 0, none⟩) A') w (w.setCell ⟨sb, r * 5 + j, none⟩ u) := by
  have hap := h.apart.1 sb ⟨_, rfl, rfl⟩
  refine ⟨⟨?_, ?_, ?_, by simpa using h.len, h.us0, h.us1⟩, (Frm.refl _ _).set _ _ (.inr (.inl ⟨_, rfl, rfl⟩))⟩
  · rw [List.length_set]; exact h.blk.far (p := ⟨sb, r * 5 + j, none⟩) (Ne.symm hap.1) u
  · rw [List.length_set]; exact h.own.store Pl.cells_len r j p p' u hp hj hc
  · exact h.fown.far (p := ⟨sb, r * 5 + j, none⟩) (fun a ha he => hap.2 ⟨a, ha, he⟩) u

set_option maxHeartbeats 1000000 in
theorem ASt.count (h : ASt w g pl us ls fr A C A' C') (r : Int) (hr0 : 0 ≤ r) (hr1 : r < 4294967296) (hcc : ∀ p, p ∈ ls → 0 ≤ p.c ∧ p.c ≤ 255) :
    Calls Try.prog 16 #[.pointer (some ⟨g, 0, none⟩), .int .u32 r] w fun e w' => e = .returned (.tuple #[.int .i64 (cntN ls r), .int .i64 (getE ls r)]) ∧ w = w' := by
  have H := Lib.hid h
  cases ht : tk ls r with
  | false =>
    have hn : cntN ls r = 0 := by
      unfold tk at ht
      unfold cntN
      cases h : ls[r.toNat]? with
      | none => rfl
      | some p => rw [h] at ht; simp only at ht ⊢; rw [ht]; rfl
    have he : getE ls r = 3 := by unfold getE; rw [ht]; rfl
    rw [hn, he]
    have HT := Lib.hid ht
    clear ht h hn he hcc
    go_enter Try.func16, Try.ntmps16
    go_wp2_with (fail)
    refine (H.out.taken r hr0 hr1).mono ?_
    rintro e w2 ⟨rfl, rfl⟩
    rw [HT.out]
    go_wp2
    go_ret2
    exact ⟨rfl, rfl⟩
  | true =>
    obtain ⟨n, rfl⟩ := Int.eq_ofNat_of_zero_le hr0
    obtain ⟨p, hp, hpt⟩ := tk_get ht
    have hlt := lt_of_get hp
    have hn : cntN ls n = p.c := by unfold cntN; rw [Int.toNat_natCast, hp]; simp [hpt]
    have he : getE ls n = 0 := by unfold getE; rw [ht]; rfl
    rw [hn, he]
    obtain ⟨p0, p1⟩ := hcc p (List.mem_of_getElem? hp)
    have HT := Lib.hid ht
    obtain ⟨sb, rfl, hsb, hc⟩ := h.own.get Pl.cells_len hp
    have c4 : w.cell? ⟨sb, n * 5 + 4, none⟩ = some (.int .u8 p.c) := hc 4 (by omega)
    have g1 := h.blk.cell 1
    have hi1 : (n : Int) < ls.length := by omega
    simp at g1
    clear ht h hn he hcc hp hpt hc
    go_enter Try.func16, Try.ntmps16
    go_wp2_with (fail)
    refine (H.out.taken n hr0 hr1).mono ?_
    rintro e w2 ⟨rfl, rfl⟩
    rw [HT.out]
    go_wp2
    go_ret2
    exact ⟨rfl, rfl⟩
set_option maxHeartbeats 1000000 in
theorem up_bad (h : ASt w g pl us ls fr A C A' C') (r : Int) (hr0 : 0 ≤ r) (hr1 : r < 4294967296) (ht : tk ls r = false) :
    Calls Try.prog 18 #[.pointer (some ⟨g, 0, none⟩), .int .u32 r] w fun e w' => e = .returned (.int .i64 3) ∧ w = w' := by
  have H := Lib.hid h
  have HT := Lib.hid ht
  clear ht h
  go_enter Try.func18, Try.ntmps18
  go_wp2_with (fail)
  refine (H.out.taken r hr0 hr1).mono ?_
  rintro e w2 ⟨rfl, rfl⟩
  rw [HT.out]
  go_wp2
  go_ret
  exact ⟨rfl, rfl⟩
set_option maxHeartbeats 1000000 in
theorem down_bad (h : ASt w g pl us ls fr A C A' C') (r : Int) (hr0 : 0 ≤ r) (hr1 : r < 4294967296) (ht : tk ls r = false) :
    Calls Try.prog 19 #[.pointer (some ⟨g, 0, none⟩), .int .u32 r] w fun e w' => e = .returned (.int .i64 3) ∧ w = w' := by
  have H := Lib.hid h
  have HT := Lib.hid ht
  clear ht h
  go_enter Try.func19, Try.ntmps19
  go_wp2_with (fail)
  refine (H.out.taken r hr0 hr1).mono ?_
  rintro e w2 ⟨rfl, rfl⟩
  rw [HT.out]
  go_wp2
  go_ret
  exact ⟨rfl, rfl⟩
/-- one more, one less -/
def upC (c : Int) : Int := if c < 255 then c + 1 else c
def dnC (c : Int) : Int := if c = 0 then c else if c < 255 then c - 1 else c
set_option maxRecDepth 100000 in
set_option maxHeartbeats 1000000 in
theorem up_ok {n : Nat} {p : Pl} (h : ASt w g pl us ls fr A C A' C') (hr1 : (n : Int) < 4294967296) (hp : ls[n]? = some p) (hpt : p.t = true) (p0 : 0 ≤ p.c) (p1 : p.c ≤ 255) :
    Calls Try.prog 18 #[.pointer (some ⟨g, 0, none⟩), .int .u32 n] w fun e w' => e = .returned (.int .i64 0) ∧ ASt w' g pl us (ls.set n ⟨p.n, p.t, upC p.c⟩) fr A C A' C' ∧ Frm (AFp g A A') w w' := by
  have H := Lib.hid h
  have hr0 : (0 : Int) ≤ n := by omega
  have HT : Hid (tk ls n = true) := Lib.hid (by unfold tk; rw [Int.toNat_natCast, hp]; exact hpt)
  have hlt := lt_of_get hp
  obtain ⟨sb, rfl, hsb, hc⟩ := h.own.get Pl.cells_len hp
  have c4 : w.cell? ⟨sb, n * 5 + 4, none⟩ = some (.int .u8 p.c) := hc 4 (by omega)
  have k4 := h.own.free (n * 5 + 4)
  have g1 := h.blk.cell 1
  have hi1 : (n : Int) < ls.length := by omega
  simp at g1
  have HP := Lib.hid hp
  have HPT := Lib.hid hpt
  clear h hp hpt hc
  by_cases hm : p.c < 255
  · go_enter Try.func18, Try.ntmps18
    go_wp2_with (fail)
    refine (H.out.taken n hr0 hr1).mono ?_
    rintro e w2 ⟨rfl, rfl⟩
    rw [HT.out]
    go_wp2
    go_ret
    have hs := H.out.setOne (j := 4) (p' := ⟨p.n, p.t, upC p.c⟩) (u := .int .u8 (p.c + 1)) HP.out (by omega) (by simp [Pl.cells, upC, hm])
    exact ⟨rfl, hs.1, hs.2⟩
  · have he : (⟨p.n, p.t, upC p.c⟩ : Pl) = p := by simp [upC, hm]
    rw [he]
    clear he
    rw [show p.c = 255 by omega] at c4
    clear hm p0 p1
    go_enter Try.func18, Try.ntmps18
    go_wp2_with (fail)
    refine (H.out.taken n hr0 hr1).mono ?_
    rintro e w2 ⟨rfl, rfl⟩
    rw [HT.out]
    go_wp2
    go_ret
    rw [set_self HP.out]
    exact ⟨rfl, H.out, Frm.refl _ _⟩
set_option maxRecDepth 100000 in
set_option maxHeartbeats 1000000 in
theorem down_ok {n : Nat} {p : Pl} (h : ASt w g pl us ls fr A C A' C') (hr1 : (n : Int) < 4294967296) (hp : ls[n]? = some p) (hpt : p.t = true) (p0 : 0 ≤ p.c) (p1 : p.c ≤ 255) :
    Calls Try.prog 19 #[.pointer (some ⟨g, 0, none⟩), .int .u32 n] w fun e w' => e = .returned (.int .i64 (if p.c = 0 then 7 else 0)) ∧ ASt w' g pl us (ls.set n ⟨p.n, p.t, dnC p.c⟩) fr A C A' C' ∧ Frm (AFp g A A') w w' := by
  have H := Lib.hid h
  have hr0 : (0 : Int) ≤ n := by omega
  have HT : Hid (tk ls n = true) := Lib.hid (by unfold tk; rw [Int.toNat_natCast, hp]; exact hpt)
  have hlt := lt_of_get hp
  obtain ⟨sb, rfl, hsb, hc⟩ := h.own.get Pl.cells_len hp
  have c4 : w.cell? ⟨sb, n * 5 + 4, none⟩ = some (.int .u8 p.c) := hc 4 (by omega)
  have k4 := h.own.free (n * 5 + 4)
  have g1 := h.blk.cell 1
  have hi1 : (n : Int) < ls.length := by omega
  simp at g1
  have HP := Lib.hid hp
  have HPT := Lib.hid hpt
  clear h hp hpt hc
  by_cases hz : p.c = 0
  · have he : (⟨p.n, p.t, dnC p.c⟩ : Pl) = p := by cases p; simp only at hz; subst hz; rfl
    rw [he, set_self HP.out, if_pos hz]
    clear he
    rw [hz] at c4
    go_enter Try.func19, Try.ntmps19
    go_wp2_with (fail)
    refine (H.out.taken n hr0 hr1).mono ?_
    rintro e w2 ⟨rfl, rfl⟩
    rw [HT.out]
    go_wp2
    go_ret
    exact ⟨rfl, H.out, Frm.refl _ _⟩
  · rw [if_neg hz]
    have hz' : (p.c == 0) = false := by simpa using hz
    by_cases hm : p.c < 255
    · go_enter Try.func19, Try.ntmps19
      go_wp2_with (fail)
      refine (H.out.taken n hr0 hr1).mono ?_
      rintro e w2 ⟨rfl, rfl⟩
      rw [HT.out]
      go_wp2
      go_ret
      have hs := H.out.setOne (j := 4) (p' := ⟨p.n, p.t, dnC p.c⟩) (u := .int .u8 (p.c - 1)) HP.out (by omega) (by simp [Pl.cells, dnC, hz, hm])
      exact ⟨rfl, hs.1, hs.2⟩
    · have he : (⟨p.n, p.t, dnC p.c⟩ : Pl) = p := by simp [dnC, hz, hm]
      rw [he]
      clear he
      rw [show p.c = 255 by omega] at c4
      clear hm p0 p1 hz hz'
      go_enter Try.func19, Try.ntmps19
      go_wp2_with (fail)
      refine (H.out.taken n hr0 hr1).mono ?_
      rintro e w2 ⟨rfl, rfl⟩
      rw [HT.out]
      go_wp2
      go_ret
      rw [set_self HP.out]
      exact ⟨rfl, H.out, Frm.refl _ _⟩
set_option maxHeartbeats 1000000 in
theorem set_bad (h : ASt w g pl us ls fr A C A' C') (r : Int) (n : Nd) (hl0 : 0 ≤ n.lo) (hl1 : n.lo < 4294967296) (hh0 : 0 ≤ n.hi) (hh1 : n.hi < 4294967296) (hc : ckN ls n ≠ 0) :
    Calls Try.prog 17 #[.pointer (some ⟨g, 0, none⟩), .int .u32 r, n.val] w fun e w' => e = .returned (.int .i64 (ckN ls n)) ∧ Same w w' := by
  have H := Lib.hid h
  have hc' : (ckN ls n != 0) = true := by simpa using hc
  clear h hc
  unfold Nd.val
  go_enter Try.func17, Try.ntmps17
  go_wp2_with (fail)
  refine call_world fun w1 hw1 => ?_
  have hs1 : Same w w1 := by rw [hw1]; exact (Frm.refl _ _).alloc _
  clear hw1
  refine ((H.out.frm hs1 (fun _ _ => id)).check n hl0 hl1 hh0 hh1).mono ?_
  rintro e w2 ⟨rfl, hs2⟩
  go_wp2
  go_ret
  exact ⟨rfl, hs1.trans hs2 (fun _ _ h => h)⟩
set_option maxHeartbeats 1000000 in
theorem set_bad2 (h : ASt w g pl us ls fr A C A' C') (r : Int) (n : Nd) (hr0 : 0 ≤ r) (hr1 : r < 4294967296) (hl0 : 0 ≤ n.lo) (hl1 : n.lo < 4294967296) (hh0 : 0 ≤ n.hi) (hh1 : n.hi < 4294967296) (hc : ckN ls n = 0) (ho : ownE ls r ≠ 0) :
    Calls Try.prog 17 #[.pointer (some ⟨g, 0, none⟩), .int .u32 r, n.val] w fun e w' => e = .returned (.int .i64 (ownE ls r)) ∧ Same w w' := by
  have H := Lib.hid h
  have HC := Lib.hid hc
  have ho' : (ownE ls r != 0) = true := by simpa using ho
  clear h hc ho
  unfold Nd.val
  go_enter Try.func17, Try.ntmps17
  go_wp2_with (fail)
  refine call_world fun w1 hw1 => ?_
  have hs1 : Same w w1 := by rw [hw1]; exact (Frm.refl _ _).alloc _
  clear hw1
  refine ((H.out.frm hs1 (fun _ _ => id)).check n hl0 hl1 hh0 hh1).mono ?_
  rintro e w2 ⟨rfl, hs2⟩
  rw [HC.out]
  have hs := hs1.trans hs2 (fun _ _ h => h)
  go_wp2_with (fail)
  refine ((H.out.frm hs (fun _ _ => id)).ownR r hr0 hr1).mono ?_
  rintro e w3 ⟨rfl, rfl⟩
  go_wp2
  go_ret
  exact ⟨rfl, hs⟩
end
end Go.Proofs.Ytkajgopkdolhcaa
