/- Behind a Clear nothing is remembered; what is put then is: the walk. -/
import Derived.Test.YtbajlmaceapfpaaCacheTwo
namespace Go.Proofs.Ytbajlmaceapfpaa
open Go.RowKit Go.Tk

abbrev kyKs : List Leaf := [.int .u8, .int .u32, .int .u32, .int .u32]
theorem ky_of {w : World} (l : List Value) (h : CellsOk w kyKs l) : ∃ k : Ky, l = k.cells := by
  simp only [CellsOk, CellOk] at h
  obtain ⟨v0, l0, rfl, ⟨n0, rfl, _⟩, v1, l1, rfl, ⟨n1, rfl, _⟩, v2, l2, rfl, ⟨n2, rfl, _⟩, v3, l3, rfl, ⟨n3, rfl, _⟩, rfl⟩ := h
  exact ⟨⟨n0, n1, n2, n3⟩, rfl⟩
theorem ky_cells {w : World} {A : Option Addr} {n m : Nat} {xs : List Ky} {k : Ky} (h : Sl w 4 Ky.cells A n xs) (ho : xs[m]? = some k) : ∃ sb off, A = some ⟨sb, off, none⟩ ∧ sb < w.heap.size ∧
    w.cell? ⟨sb, off + m * 4, none⟩ = some (.int .u8 k.o) ∧ w.cell? ⟨sb, off + m * 4 + 1, none⟩ = some (.int .u32 k.a) ∧ w.cell? ⟨sb, off + m * 4 + 2, none⟩ = some (.int .u32 k.b) ∧
    w.cell? ⟨sb, off + m * 4 + 3, none⟩ = some (.int .u32 k.c) := by
  obtain ⟨sb, off, hA, hsb, hc⟩ := h.get m k ho
  exact ⟨sb, off, hA, hsb, hc 0 (by omega), hc 1 (by omega), hc 2 (by omega), hc 3 (by omega)⟩

/-- A cache of the call's own: some lines, none of a later generation. -/
def Cc (w : World) (W g n cl : Nat) : Prop := ∃ (ls : List Ln) (L : Option Nat), CSt w g n cl ls L ∧ (∀ l, l ∈ ls → l.gen ≤ (cl : Int) + 1) ∧ W ≤ g ∧ ∀ b, L = some b → W ≤ b
/-- .. and none of this one -/
def Ce (w : World) (W g n cl : Nat) : Prop := ∃ (ls : List Ln) (L : Option Nat), CSt w g n cl ls L ∧ (∀ l, l ∈ ls → l.gen ≤ (cl : Int)) ∧ W ≤ g ∧ ∀ b, L = some b → W ≤ b
theorem Ce.cc {w : World} {W g n cl : Nat} (h : Ce w W g n cl) : Cc w W g n cl := by
  obtain ⟨ls, L, h1, h2, h3, h4⟩ := h
  exact ⟨ls, L, h1, fun l hl => by have := h2 l hl; omega, h3, h4⟩
theorem Cc.same {w w' : World} {W g n cl : Nat} (h : Cc w W g n cl) (hs : Same w w') : Cc w' W g n cl := by
  obtain ⟨ls, L, h1, h2, h3, h4⟩ := h
  exact ⟨ls, L, h1.frm hs id (fun _ _ => id), h2, h3, h4⟩
theorem Ce.same {w w' : World} {W g n cl : Nat} (h : Ce w W g n cl) (hs : Same w w') : Ce w' W g n cl := by
  obtain ⟨ls, L, h1, h2, h3, h4⟩ := h
  exact ⟨ls, L, h1.frm hs id (fun _ _ => id), h2, h3, h4⟩
theorem Cc.put {w : World} {W g n cl : Nat} (h : Cc w W g n cl) (hW : W ≤ w.heap.size) (hc : cl < 9223372036854775807) (k : Ky) (r : Int) :
    Calls Try.prog 12 #[.pointer (some ⟨g, 0, none⟩), k.val, .int .u32 r] w fun e w' => e = .returned (.tuple #[]) ∧ Cc w' W g n cl ∧ Below W w w' ∧ w.heap.size ≤ w'.heap.size ∧
      (∀ b t cs, W ≤ b → t ≠ 52 → t ≠ 64 → Blk w b t cs → Blk w' b t cs) ∧ (∃ (ls : List Ln) (L : Option Nat), CSt w' g n cl ls L ∧ ls[k.at n]? = some ⟨k, r, (cl : Int) + 1⟩ ) := by
  obtain ⟨ls, L, h1, h2, h3, h4⟩ := h
  refine (h1.put hc k r).mono ?_
  rintro e w' ⟨he, L', h5, h6, h7⟩
  have hi : k.at n < ls.length := by rw [h1.len]; exact idx_lt h1.pos _ _ _ _
  refine ⟨he, ⟨_, L', h5, fun l hl => ?_, h3, fun b hb => ?_⟩, h6.to_below hW ?_, h6.size, ?_, ⟨_, L', h5, by simp [hi]⟩⟩
  · rcases List.mem_or_eq_of_mem_set hl with h | h
    · exact h2 l h
    · rw [h]; simp
  · rcases h7 b hb with h | h
    · exact h4 b h
    · omega
  · rintro i hi (h | h)
    · omega
    · have := h4 i h; omega
  · intro b t cs _ ht1 ht2 hb
    refine hb.frm h6 ?_
    rintro (h | h)
    · subst h; exact ht1 (hb.inj h1.blk).1
    · have hl := h1.lines
      subst h
      exact ht2 (hb.inj (show Blk w b 64 _ from hl)).1
theorem Cc.clear {w : World} {W g n cl : Nat} (h : Cc w W g n cl) (hW : W ≤ w.heap.size) (hc : cl < 9223372036854775807) :
    Calls Try.prog 13 #[.pointer (some ⟨g, 0, none⟩)] w fun e w' => e = .returned (.tuple #[]) ∧ Ce w' W g n (cl + 1) ∧ Below W w w' := by
  obtain ⟨ls, L, h1, h2, h3, h4⟩ := h
  refine (h1.clear hc).mono ?_
  rintro e w' ⟨he, h5, h6⟩
  exact ⟨he, ⟨ls, L, h5, fun l hl => by have := h2 l hl; omega, h3, h4⟩, h6.to_below hW (fun i hi h => by omega)⟩
theorem Ce.get {w : World} {W g n cl : Nat} (h : Ce w W g n cl) (hc : cl < 9223372036854775807) (k : Ky) :
    Calls Try.prog 14 #[.pointer (some ⟨g, 0, none⟩), k.val] w fun e w' => e = .returned (.tuple #[.int .u32 0, .bool false]) ∧ Same w w' := by
  obtain ⟨ls, L, h1, h2, h3, h4⟩ := h
  obtain ⟨l, hl, hget⟩ := h1.get hc k
  have hh : hit l k cl = false := by
    have := h2 l (List.mem_of_getElem? hl)
    have hg : ¬ (l.gen = (cl : Int) + 1) := by omega
    simp [hit, hg]
  simpa [ansR, hh] using hget
theorem Ce.start {w w' : World} {W n : Nat} (hc : CSt w' w.heap.size n 0 (List.replicate n zeroLn) none) (hW : W ≤ w.heap.size) : Ce w' W w.heap.size n 0 :=
  ⟨_, none, hc, fun l hl => by rw [List.eq_of_mem_replicate hl]; simp [zeroLn], hW, fun b h => by cases h⟩

set_option maxHeartbeats 4000000 in
theorem clears_walk (p t : Int) (A : Option Addr) (n c : Nat) (xs : List Ky) (w : World) (hx : Sl w 4 Ky.cells A n xs) (hr : n * 16 ≤ 140737488351232) :
    Calls Try.prog 5 #[.int .i64 p, .slice A n c, .int .i64 t] w fun e w' => e = .returned (.bool true) ∧ Below w.heap.size w w' := by
  obtain rfl := hx.len
  have HX := Lib.hid hx
  clear hx
  obtain ⟨hu0, hu1⟩ := bounds_u64 (wf_wrap .u64 p)
  obtain ⟨ht0, ht1⟩ := bounds_u64 (wf_wrap .u64 t)
  go_enter Try.func5, Try.ntmps5
  go_wp2_with (fail)
  refine (awake_any w).mono ?_
  rintro e w1 ⟨rfl, hs1⟩
  go_wp2_with (fail)
  obtain ⟨N, hN⟩ : ∃ N : Nat, 1 + IntKind.u64.wrap p % 50 = (N : Int) := ⟨(1 + IntKind.u64.wrap p % 50).toNat, by omega⟩
  have hN1 : 0 < N := by omega
  have hN2 : N ≤ 50 := by omega
  rw [hN]
  clear hN hu0 hu1
  refine (CSt.new w1 N hN1 (by omega)).mono ?_
  rintro e w2 ⟨rfl, hc2, hs2⟩
  have hC := Ce.start hc2 hs1.size
  have hb0 : Below w.heap.size w w2 := (hs1.trans hs2 (fun _ _ h => h)).to_below (Nat.le_refl _) (fun _ _ => id)
  clear hc2 hs1 hs2
  obtain ⟨M, hM⟩ : ∃ M : Nat, 1 + IntKind.u64.wrap t % 300 = (M : Int) := ⟨(1 + IntKind.u64.wrap t % 300).toNat, by omega⟩
  have hM1 : 0 < M := by omega
  have hM2 : M ≤ 300 := by omega
  have HM := Lib.hid hM
  clear hM
  generalize w1.heap.size = g at *
  go_wp2_with (fail)
  rw [HM.out]
  clear HM ht0 ht1
  go_loopw [43] (fun i wr => ∃ m : Nat, m ≤ M ∧ i = .int .i64 m ∧ Ce wr w.heap.size g N m ∧ Below w.heap.size w wr) (fun i _ => M - (intOf i).toNat)
  case atStart => exact ⟨0, by omega, rfl, hC, hb0⟩
  case round =>
    clear hC hb0
    obtain ⟨m, hm, rfl, hCr, hbr⟩ := hrel
    by_cases hlt : m < M
    · have HC0 := Lib.hid hCr.cc
      have HB0 := Lib.hid hbr
      clear hCr hbr
      obtain ⟨wo, rfl⟩ : ∃ wo : World, wo = wr := ⟨_, rfl⟩
      go_wp2
      go_loopw [48] (fun j wq => ∃ q : Nat, q ≤ xs.length ∧ j = .int .i64 q ∧ Cc wq w.heap.size g N m ∧ Below w.heap.size w wq) (fun j _ => xs.length - (intOf j).toNat)
      case atStart => exact ⟨0, by omega, rfl, HC0.out, HB0.out⟩
      case round =>
        clear HC0 HB0
        obtain ⟨q, hq, rfl, hCq, hbq⟩ := hrel
        by_cases hlq : q < xs.length
        · obtain ⟨k, hk⟩ : ∃ k, xs[q]? = some k := ⟨_, List.getElem?_eq_getElem hlq⟩
          obtain ⟨sb, off, rfl, hsb, l0, l1, l2, l3⟩ := ky_cells (HX.out.later hbq) hk
          have hi0 : (0 : Int) ≤ q := by omega
          have hi1 : (q : Int) < xs.length := by omega
          have HC := Lib.hid hCq
          have HB := Lib.hid hbq
          clear hCq hbq hk
          by_cases h3 : m < 3 ∨ q = 0
          · have h3' : (decide ((m : Int) < 3) = true) ∨ (decide ((m : Int) < 3) = false ∧ ((q : Int) == 0) = true) := by
              rcases Nat.lt_or_ge m 3 with h | h
              · left; simp; omega
              · right; refine ⟨by simp; omega, by simp; omega⟩
            rcases h3' with h4 | ⟨h4, h5⟩
            all_goals
              go_wp2_with (fail)
              refine call_world fun v1 hv1 => ?_
              have ha1 : Same wr v1 := by rw [hv1]; exact (Frm.refl _ _).alloc _
              clear hv1
              refine ((HC.out.same ha1).put (by have := HB.out.size; have := ha1.size; omega) (by omega) k _).mono ?_
              rintro e v2 ⟨rfl, hC2, hb2, _⟩
              have HB2 := Lib.hid ((HB.out.trans (ha1.to_below HB.out.size (fun _ _ => id))).trans hb2)
              have HC2 := Lib.hid hC2
              clear hC2 hb2 HC HB ha1 l0 l1 l2 l3
              go_wp2
              go_roundw
              case rel => exact ⟨q + 1, by omega, by go_num, HC2.out, HB2.out⟩
              case measure => simp [intOf]; omega
          · have h4 : decide ((m : Int) < 3) = false := by simp; omega
            have h5 : ((q : Int) == 0) = false := by simp; omega
            go_wp2_with (fail)
            go_roundw
            case rel => exact ⟨q + 1, by omega, by go_num, HC.out.same ((Frm.refl _ _).alloc _), HB.out.trans (((Frm.refl (fun _ => False) _).alloc _).to_below HB.out.size (fun _ _ => id))⟩
            case measure => simp [intOf]; omega
        · obtain rfl : q = xs.length := by omega
          have HC := Lib.hid hCq
          have HB := Lib.hid hbq
          clear hCq hbq
          go_wp2_with (fail)
          refine (HC.out.clear HB.out.size (by omega)).mono ?_
          rintro e v2 ⟨rfl, hC2, hb2⟩
          have HC2 := Lib.hid hC2
          have HB2 := Lib.hid (HB.out.trans hb2)
          clear hC2 hb2 HC HB
          go_wp2
          go_loopw [70] (fun j wq => ∃ q : Nat, q ≤ xs.length ∧ j = .int .i64 q ∧ Ce wq w.heap.size g N (m + 1) ∧ Below w.heap.size w wq) (fun j _ => xs.length - (intOf j).toNat)
          case atStart => exact ⟨0, by omega, rfl, HC2.out, HB2.out⟩
          case round =>
            clear HC2 HB2
            obtain ⟨q, hq, rfl, hCq, hbq⟩ := hrel
            by_cases hlq : q < xs.length
            · obtain ⟨k, hk⟩ : ∃ k, xs[q]? = some k := ⟨_, List.getElem?_eq_getElem hlq⟩
              obtain ⟨sb, off, rfl, hsb, l0, l1, l2, l3⟩ := ky_cells (HX.out.later hbq) hk
              have hi0 : (0 : Int) ≤ q := by omega
              have hi1 : (q : Int) < xs.length := by omega
              have HC := Lib.hid hCq
              have HB := Lib.hid hbq
              clear hCq hbq hk
              go_wp2_with (fail)
              refine call_world fun v1 hv1 => ?_
              have ha1 : Same wr v1 := by rw [hv1]; exact (Frm.refl _ _).alloc _
              clear hv1
              refine ((HC.out.same ha1).get (by omega) k).mono ?_
              rintro e v2 ⟨rfl, ha2⟩
              have ha := ha1.trans ha2 (fun _ _ h => h)
              have HB2 := Lib.hid (HB.out.trans (ha.to_below HB.out.size (fun _ _ => id)))
              have HC2 := Lib.hid (HC.out.same ha)
              clear HC HB ha ha1 ha2 l0 l1 l2 l3
              go_wp2
              go_roundw
              case rel => exact ⟨q + 1, by omega, by go_num, HC2.out, HB2.out⟩
              case measure => simp [intOf]; omega
            · obtain rfl : q = xs.length := by omega
              go_wp2
              go_roundw
              case rel => exact ⟨m + 1, by omega, by go_num, hCq, hbq⟩
              case measure => simp [intOf]; omega
    · obtain rfl : m = M := by omega
      have HC0 := Lib.hid hCr.cc
      have HB0 := Lib.hid hbr
      clear hCr hbr
      obtain ⟨wo, rfl⟩ : ∃ wo : World, wo = wr := ⟨_, rfl⟩
      go_wp2
      go_loopw [89] (fun j wq => ∃ q : Nat, q ≤ xs.length ∧ j = .int .i64 q ∧ Cc wq w.heap.size g N m ∧ Below w.heap.size w wq) (fun j _ => xs.length - (intOf j).toNat)
      case atStart => exact ⟨0, by omega, rfl, HC0.out, HB0.out⟩
      case round =>
        clear HC0 HB0
        obtain ⟨q, hq, rfl, hCq, hbq⟩ := hrel
        by_cases hlq : q < xs.length
        · obtain ⟨k, hk⟩ : ∃ k, xs[q]? = some k := ⟨_, List.getElem?_eq_getElem hlq⟩
          obtain ⟨sb, off, rfl, hsb, l0, l1, l2, l3⟩ := ky_cells (HX.out.later hbq) hk
          have hi0 : (0 : Int) ≤ q := by omega
          have hi1 : (q : Int) < xs.length := by omega
          have HC := Lib.hid hCq
          have HB := Lib.hid hbq
          clear hCq hbq hk
          go_wp2_with (fail)
          refine call_world fun v1 hv1 => ?_
          have ha1 : Same wr v1 := by rw [hv1]; exact (Frm.refl _ _).alloc _
          have hX := Blk.new wr 34 #[.int .u8 k.o, .int .u32 k.a, .int .u32 k.b, .int .u32 k.c]
          rw [← hv1] at hX
          clear hv1
          refine ((HC.out.same ha1).put (by have := HB.out.size; have := ha1.size; omega) (by omega) k _).mono ?_
          rintro e v2 ⟨rfl, hC2, hb2, hz2, hk2, ls, L, hcs, hget⟩
          have hX2 := hk2 _ _ _ HB.out.size (by decide) (by decide) hX
          have x0 := hX2.cell 0
          have x1 := hX2.cell 1
          have x2 := hX2.cell 2
          have x3 := hX2.cell 3
          simp at x0 x1 x2 x3
          obtain ⟨l, hl, hcall⟩ := hcs.get (by omega) k
          rw [hget] at hl
          injection hl with hl
          subst hl
          have hh : hit ⟨k, ((q : Int) + 5) % 4294967296, (m : Int) + 1⟩ k m = true := by simp [hit]
          have hr : ansR ⟨k, ((q : Int) + 5) % 4294967296, (m : Int) + 1⟩ k m = ((q : Int) + 5) % 4294967296 := by unfold ansR; rw [hh]; rfl
          rw [hh, hr] at hcall
          have hb3 := (HB.out.trans (ha1.to_below HB.out.size (fun _ _ => id))).trans hb2
          have HB2 := Lib.hid hb3
          have HC2 := Lib.hid hC2
          have HCALL := Lib.hid hcall
          clear hC2 hb2 hb3 HC HB ha1 l0 l1 l2 l3 hh hr hcs hget hk2 hX hX2 hcall
          go_wp2_with (fail)
          refine HCALL.out.mono ?_
          rintro e v3 ⟨rfl, ha3⟩
          have HB3 := Lib.hid (HB2.out.trans (ha3.to_below HB2.out.size (fun _ _ => id)))
          have HC3 := Lib.hid (HC2.out.same ha3)
          clear HCALL HB2 HC2 ha3 x0 x1 x2 x3
          go_wp2
          go_roundw
          case rel => exact ⟨q + 1, by omega, by go_num, HC3.out, HB3.out⟩
          case measure => simp [intOf]; omega
        · obtain rfl : q = xs.length := by omega
          obtain ⟨ls, L, hcs, _⟩ := hCq
          have HB := Lib.hid hbq
          clear hbq
          go_wp2_with (fail)
          refine (gen_same g N m _ _ hcs.blk).mono ?_
          rintro e v2 ⟨rfl, ha2⟩
          clear hcs
          go_wp2
          go_ret
          exact ⟨by simp, HB.out.trans (ha2.to_below HB.out.size (fun _ _ => id))⟩
end Go.Proofs.Ytbajlmaceapfpaa
