/- Two caches know nothing of one another: the walk. -/
import Derived.Test.YtbajlmaceapfpaaCacheLaws
namespace Go.Proofs.Ytbajlmaceapfpaa
open Go.RowKit Go.Tk

structure Pair (w : World) (W g d g' d' n K K' : Nat) (S T : Nat → Prop) : Prop where
  one : Both w g d n K S
  two : Both w g' d' n K' T
  dis : ∀ b, S b → ¬ T b
  low : ∀ b, S b → W ≤ b
  low' : ∀ b, T b → W ≤ b
theorem Pair.swap {w : World} {W g d g' d' n K K' : Nat} {S T : Nat → Prop} (h : Pair w W g d g' d' n K K' S T) : Pair w W g' d' g d n K' K T S := ⟨h.two, h.one, fun b h1 h2 => h.dis b h2 h1, h.low', h.low⟩
theorem Pair.same {w w' : World} {W g d g' d' n K K' : Nat} {S T : Nat → Prop} (h : Pair w W g d g' d' n K K' S T) (hs : Same w w') : Pair w' W g d g' d' n K K' S T :=
  ⟨h.one.frm hs (fun _ _ => id), h.two.frm hs (fun _ _ => id), h.dis, h.low, h.low'⟩
theorem Pair.mono {w : World} {W g d g' d' n K K' L L' : Nat} {S T : Nat → Prop} (h : Pair w W g d g' d' n K K' S T) (hk : K ≤ L) (hk' : K' ≤ L') : Pair w W g d g' d' n L L' S T := ⟨h.one.mono hk, h.two.mono hk', h.dis, h.low, h.low'⟩
theorem Pair.step {w w' : World} {W g d g' d' n K K' L : Nat} {S S' T : Nat → Prop} (h : Pair w W g d g' d' n K K' S T) (hW : W ≤ w.heap.size) (hB : Both w' g d n L S') (hf : Frm S w w') (hS : ∀ b, S' b → S b ∨ w.heap.size ≤ b) :
    Pair w' W g d g' d' n L K' S' T := by
  refine ⟨hB, h.two.frm hf (fun b h1 h2 => h.dis b h2 h1), fun b h1 h2 => ?_, fun b hb => ?_, h.low'⟩
  · rcases hS b h1 with h3 | h3
    · exact h.dis b h3 h2
    · have := h.two.lt b h2; omega
  · rcases hS b hb with h3 | h3
    · exact h.low b h3
    · omega
theorem Pair.below {w w' : World} {W g d g' d' n K K' : Nat} {S T : Nat → Prop} (h : Pair w W g d g' d' n K K' S T) (hW : W ≤ w.heap.size) (hf : Frm S w w') : Below W w w' := hf.to_below hW (fun i hi hs => by have := h.low i hs; omega)

theorem Both.start {w : World} {g d n : Nat} (hp : 0 < n) (hm : n ≤ 1048576) (hb : Blk w g 52 #[.slice none 0 0, .int .i64 n, .int .u64 0]) (hd : Blk w d 55 #[.int .i64 n, .slice none 0 0, .int .i64 (-1), .int .u64 0]) :
    Both w g d n 0 (fun b => b = g ∨ b = d) := by
  refine ⟨0, _, none, [], -1, none, 0, ⟨hp, hm, hb, rfl, hd, Own.nil _ _ _ _, Lnk.start n⟩, Nat.le_refl _, Nat.le_refl _, fun b => ?_⟩
  simp only [Fp, rowOf]
  constructor
  · rintro (h | h)
    · exact .inl h
    · exact .inr (.inr (.inl h))
  · rintro (h | h | h | ⟨a, ha, _⟩)
    · exact .inl h
    · cases h
    · exact .inr h
    · cases ha

theorem opn_cells {w : World} {A : Option Addr} {n m : Nat} {xs : List Opn} {o : Opn} (h : Sl w 6 Opn.cells A n xs) (ho : xs[m]? = some o) : ∃ sb off, A = some ⟨sb, off, none⟩ ∧ sb < w.heap.size ∧
    w.cell? ⟨sb, off + m * 6, none⟩ = some (.int .i64 o.kind) ∧ w.cell? ⟨sb, off + m * 6 + 1, none⟩ = some (.int .u8 o.k.o) ∧ w.cell? ⟨sb, off + m * 6 + 2, none⟩ = some (.int .u32 o.k.a) ∧
    w.cell? ⟨sb, off + m * 6 + 3, none⟩ = some (.int .u32 o.k.b) ∧ w.cell? ⟨sb, off + m * 6 + 4, none⟩ = some (.int .u32 o.k.c) ∧ w.cell? ⟨sb, off + m * 6 + 5, none⟩ = some (.int .u32 o.r) := by
  obtain ⟨sb, off, hA, hsb, hc⟩ := h.get m o ho
  exact ⟨sb, off, hA, hsb, hc 0 (by omega), hc 1 (by omega), hc 2 (by omega), hc 3 (by omega), hc 4 (by omega), hc 5 (by omega)⟩

set_option maxHeartbeats 4000000 in
theorem two_walk (p : Int) (A1 A2 : Option Addr) (n1 n2 c1 c2 : Nat) (xs ys : List Opn) (w : World) (hx : Sl w 6 Opn.cells A1 n1 xs) (hy : Sl w 6 Opn.cells A2 n2 ys) (hr1 : n1 * 32 ≤ 140737488351232) (hr2 : n2 * 32 ≤ 140737488351232) :
    Calls Try.prog 4 #[.int .i64 p, .slice A1 n1 c1, .slice A2 n2 c2] w fun e w' => e = .returned (.bool true) ∧ Below w.heap.size w w' := by
  obtain rfl := hx.len
  obtain rfl := hy.len
  have HX := Lib.hid hx
  have HY := Lib.hid hy
  clear hx hy
  have hu := bounds_u64 (wf_wrap .u64 p)
  obtain ⟨hu0, hu1⟩ := hu
  go_enter Try.func4, Try.ntmps4
  go_wp2_with (fail)
  refine (awake_any w).mono ?_
  rintro e w1 ⟨rfl, hs1⟩
  go_wp2_with (fail)
  obtain ⟨N, hN⟩ : ∃ N : Nat, 1 + IntKind.u64.wrap p % 30 = (N : Int) := ⟨(1 + IntKind.u64.wrap p % 30).toNat, by omega⟩
  have hN1 : 0 < N := by omega
  have hN2 : N ≤ 30 := by omega
  rw [hN]
  clear hN hu0 hu1
  refine (new_ok N w1 (by omega) (by omega)).mono ?_
  rintro e w2 ⟨rfl, h2⟩
  go_wp2_with (fail)
  refine (new_ok N w2 (by omega) (by omega)).mono ?_
  rintro e w3 ⟨rfl, h3⟩
  go_wp2_with (fail)
  refine (docnew_ok N w3 (by omega) (by omega)).mono ?_
  rintro e w4 ⟨rfl, h4⟩
  go_wp2_with (fail)
  refine (docnew_ok N w4 (by omega) (by omega)).mono ?_
  rintro e w5 ⟨rfl, h5⟩
  have z0 := hs1.size
  have e2 : w2.heap.size = w1.heap.size + 1 := by rw [← h2]; simp
  have e3 : w3.heap.size = w2.heap.size + 1 := by rw [← h3]; simp
  have e4 : w4.heap.size = w3.heap.size + 1 := by rw [← h4]; simp
  have hB1 : Both w5 w1.heap.size w3.heap.size N 0 (fun b => b = w1.heap.size ∨ b = w3.heap.size) := by
    refine Both.start hN1 (by omega) ?_ ?_
    · rw [← h5, ← h4, ← h3, ← h2]; exact (((Blk.new _ _ _).alloc _).alloc _).alloc _
    · rw [← h5, ← h4]; exact (Blk.new _ _ _).alloc _
  have hB2 : Both w5 w2.heap.size w4.heap.size N 0 (fun b => b = w2.heap.size ∨ b = w4.heap.size) := by
    refine Both.start hN1 (by omega) ?_ ?_
    · rw [← h5, ← h4, ← h3]; exact ((Blk.new _ _ _).alloc _).alloc _
    · rw [← h5]; exact Blk.new _ _ _
  have hP0 : Pair w5 w.heap.size w1.heap.size w3.heap.size w2.heap.size w4.heap.size N 0 0 (fun b => b = w1.heap.size ∨ b = w3.heap.size) (fun b => b = w2.heap.size ∨ b = w4.heap.size) :=
    ⟨hB1, hB2, fun b h => by omega, fun b h => by omega, fun b h => by omega⟩
  have hb0 : Below w.heap.size w w5 := by
    refine Frm.to_below (S := fun _ => False) ?_ (Nat.le_refl _) (fun _ _ => id)
    rw [← h5, ← h4, ← h3, ← h2]
    exact (((hs1.alloc _).alloc _).alloc _).alloc _
  clear h2 h3 h4 h5 e2 e3 e4 z0 hB1 hB2 hs1
  generalize w1.heap.size = g at *
  generalize w2.heap.size = g' at *
  generalize w3.heap.size = d at *
  generalize w4.heap.size = d' at *
  go_wp2_with (fail)
  go_loopw [15] (fun i wr => ∃ (m : Nat) (S T : Nat → Prop), (m ≤ xs.length ∨ m ≤ ys.length) ∧ i = .int .i64 m ∧ Pair wr w.heap.size g d g' d' N m m S T ∧ Below w.heap.size w wr) (fun i _ => xs.length + ys.length - (intOf i).toNat)
  case atStart => exact ⟨0, _, _, by omega, rfl, hP0, hb0⟩
  case round =>
    clear hP0 hb0
    obtain ⟨m, S, T, hm, rfl, hP, hbr⟩ := hrel
    by_cases h1 : m < xs.length
    · obtain ⟨o, ho⟩ : ∃ o, xs[m]? = some o := ⟨_, List.getElem?_eq_getElem h1⟩
      obtain ⟨sb, off, rfl, hsb, l0, l1, l2, l3, l4, l5⟩ := opn_cells (HX.out.later hbr) ho
      have hi0 : (0 : Int) ≤ m := by omega
      have hi1 : (m : Int) < xs.length := by omega
      have HP := Lib.hid hP
      have HBL := Lib.hid hbr
      clear hP hbr ho
      by_cases h2 : m < ys.length
      · obtain ⟨o2, ho2⟩ : ∃ o, ys[m]? = some o := ⟨_, List.getElem?_eq_getElem h2⟩
        have hi2 : (m : Int) < ys.length := by omega
        have HO2 := Lib.hid ho2
        clear ho2
        go_wp2_with (fail)
        clear l0 l1 l2 l3 l4 l5
        refine (one_any g d N m S o.kind o.k o.r wr HP.out.one (by omega)).mono ?_
        rintro e v2 ⟨rfl, S2, hB2, hf2, hS2⟩
        have HP2 := Lib.hid (HP.out.step HBL.out.size hB2 hf2 hS2)
        have HBL2 := Lib.hid (HBL.out.trans (HP.out.below HBL.out.size hf2))
        clear hB2 hf2 hS2 HP HBL
        obtain ⟨sb2, off2, rfl, hsb2, l0, l1, l2, l3, l4, l5⟩ := opn_cells (HY.out.later HBL2.out) HO2.out
        go_wp2_with (fail)
        clear l0 l1 l2 l3 l4 l5
        refine (one_any g' d' N m T o2.kind o2.k o2.r v2 HP2.out.two (by omega)).mono ?_
        rintro e v3 ⟨rfl, T2, hB3, hf3, hT2⟩
        have HP3 := Lib.hid ((HP2.out.swap.step HBL2.out.size hB3 hf3 hT2).swap)
        have HBL3 := Lib.hid (HBL2.out.trans (HP2.out.swap.below HBL2.out.size hf3))
        clear hB3 hf3 hT2 HP2 HBL2
        go_wp2
        go_roundw
        case rel => exact ⟨m + 1, S2, T2, by omega, by go_num, HP3.out, HBL3.out⟩
        case measure => simp [intOf]; omega
      · have hi2 : decide ((m : Int) < (ys.length : Int)) = false := by simp; omega
        go_wp2_with (fail)
        clear l0 l1 l2 l3 l4 l5
        refine (one_any g d N m S o.kind o.k o.r wr HP.out.one (by omega)).mono ?_
        rintro e v2 ⟨rfl, S2, hB2, hf2, hS2⟩
        have HP2 := Lib.hid ((HP.out.step HBL.out.size hB2 hf2 hS2).mono (L := m + 1) (L' := m + 1) (by omega) (by omega))
        have HBL2 := Lib.hid (HBL.out.trans (HP.out.below HBL.out.size hf2))
        clear hB2 hf2 hS2 HP HBL
        go_wp2
        go_roundw
        case rel => exact ⟨m + 1, S2, T, by omega, by go_num, HP2.out, HBL2.out⟩
        case measure => simp [intOf]; omega
    · have hi1 : decide ((m : Int) < (xs.length : Int)) = false := by simp; omega
      by_cases h2 : m < ys.length
      · obtain ⟨o2, ho2⟩ : ∃ o, ys[m]? = some o := ⟨_, List.getElem?_eq_getElem h2⟩
        obtain ⟨sb2, off2, rfl, hsb2, l0, l1, l2, l3, l4, l5⟩ := opn_cells (HY.out.later hbr) ho2
        have hi0 : (0 : Int) ≤ m := by omega
        have hi2 : (m : Int) < ys.length := by omega
        have HP := Lib.hid hP
        have HBL := Lib.hid hbr
        clear hP hbr ho2
        go_wp2_with (fail)
        clear l0 l1 l2 l3 l4 l5
        refine (one_any g' d' N m T o2.kind o2.k o2.r wr HP.out.two (by omega)).mono ?_
        rintro e v3 ⟨rfl, T2, hB3, hf3, hT2⟩
        have HP3 := Lib.hid (((HP.out.swap.step HBL.out.size hB3 hf3 hT2).swap).mono (L := m + 1) (L' := m + 1) (by omega) (by omega))
        have HBL3 := Lib.hid (HBL.out.trans (HP.out.swap.below HBL.out.size hf3))
        clear hB3 hf3 hT2 HP HBL
        go_wp2
        go_roundw
        case rel => exact ⟨m + 1, S, T2, by omega, by go_num, HP3.out, HBL3.out⟩
        case measure => simp [intOf]; omega
      · have hi2 : decide ((m : Int) < (ys.length : Int)) = false := by simp; omega
        have hK : m < 9223372036854775807 := by omega
        obtain ⟨q1, _, hcall1⟩ := rem_both hP.one hK
        have HP := Lib.hid hP
        clear hP
        go_wp2_with (fail)
        refine hcall1.mono ?_
        rintro e v2 ⟨rfl, hv2⟩
        clear hcall1
        obtain ⟨q2, _, hcall2⟩ := rem_both (HP.out.same hv2).two hK
        have hq1 : (q1 : Int) ≥ 0 := by omega
        have hq2 : (q2 : Int) ≥ 0 := by omega
        go_wp2_with (fail)
        refine hcall2.mono ?_
        rintro e v3 ⟨rfl, hv3⟩
        clear hcall2
        go_wp2
        go_ret
        refine ⟨by simp, hbr.trans ((hv2.trans hv3 (fun _ _ h => h)).to_below hbr.size (fun _ _ => id))⟩
end Go.Proofs.Ytbajlmaceapfpaa
