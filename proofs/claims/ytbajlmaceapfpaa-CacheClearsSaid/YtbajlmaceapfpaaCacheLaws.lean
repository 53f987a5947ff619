/- The laws of the cache: their walks. -/
import Derived.Test.YtbajlmaceapfpaaCacheAwake
namespace Go.Proofs.Ytbajlmaceapfpaa
open Go.RowKit Go.Tk

abbrev opKs : List Leaf := [.int .i64, .int .u8, .int .u32, .int .u32, .int .u32, .int .u32]
structure Opn where
  kind : Int
  k : Ky
  r : Int
def Opn.cells (o : Opn) : List Value := [.int .i64 o.kind, .int .u8 o.k.o, .int .u32 o.k.a, .int .u32 o.k.b, .int .u32 o.k.c, .int .u32 o.r]
def Opn.val (o : Opn) : Value := opVal o.kind o.k o.r
theorem opn_of {w : World} (l : List Value) (h : CellsOk w opKs l) : ∃ o : Opn, l = o.cells := by
  simp only [CellsOk, CellOk] at h
  obtain ⟨v0, l0, rfl, ⟨n0, rfl, _⟩, v1, l1, rfl, ⟨n1, rfl, _⟩, v2, l2, rfl, ⟨n2, rfl, _⟩, v3, l3, rfl, ⟨n3, rfl, _⟩, v4, l4, rfl, ⟨n4, rfl, _⟩, v5, l5, rfl, ⟨n5, rfl, _⟩, rfl⟩ := h
  exact ⟨⟨n0, ⟨n1, n2, n3, n4⟩, n5⟩, rfl⟩

set_option maxHeartbeats 1000000 in
theorem nil_walk (o : Opn) (w : World) : Calls Try.prog 6 #[o.val] w fun e w' => e = .returned (.bool true) ∧ Below w.heap.size w w' := by
  unfold Opn.val opVal
  go_enter Try.func6, Try.ntmps6
  go_wp2_with (fail)
  refine call_world fun w1 hw1 => ?_
  have hs1 : Same w w1 := by rw [hw1]; exact (Frm.refl _ _).alloc _
  have hX := Blk.new w 36 #[.int .i64 o.kind, .int .u8 o.k.o, .int .u32 o.k.a, .int .u32 o.k.b, .int .u32 o.k.c, .int .u32 o.r]
  rw [← hw1] at hX
  clear hw1
  refine (put_nil o.k o.r w1).mono ?_
  rintro e w2 ⟨rfl, hs2⟩
  have hX2 := hX.frm hs2 id
  have x1 := hX2.cell 1
  have x2 := hX2.cell 2
  have x3 := hX2.cell 3
  have x4 := hX2.cell 4
  simp at x1 x2 x3 x4
  go_wp2_with (fail)
  refine (clear_nil w2).mono ?_
  rintro e w3 ⟨rfl, rfl⟩
  go_wp2_with (fail)
  refine (get_nil o.k w2).mono ?_
  rintro e w4 ⟨rfl, hs4⟩
  go_wp2_with (fail)
  refine (awake_any w4).mono ?_
  rintro e w5 ⟨rfl, hs5⟩
  go_wp2_with (fail)
  refine (gen_nil w5).mono ?_
  rintro e w6 ⟨rfl, rfl⟩
  go_wp2
  go_ret
  exact ⟨by simp, Frm.to_below (((hs1.trans hs2 (fun _ _ h => h)).trans hs4 (fun _ _ h => h)).trans hs5 (fun _ _ h => h)) (Nat.le_refl _) (fun _ _ => id)⟩

theorem St.new {w w' : World} {n : Nat} (hp : 0 < n) (hm : n ≤ 1048576) (h1 : w.alloc (.cells #[.slice none 0 0, .int .i64 n, .int .u64 0] 52) = w') {w2 : World} (h2 : w'.alloc (.cells #[.int .i64 n, .slice none 0 0, .int .i64 (-1), .int .u64 0] 55) = w2) :
    Both w2 w.heap.size w'.heap.size n 0 (fun b => b = w.heap.size ∨ b = w'.heap.size) := by
  subst h1 h2
  refine ⟨0, _, none, [], -1, none, 0, ⟨hp, hm, (Blk.new _ _ _).alloc _, rfl, Blk.new _ _ _, Own.nil _ _ _ _, Lnk.start n⟩, Nat.le_refl _, Nat.le_refl _, fun b => ?_⟩
  simp only [Fp, rowOf]
  constructor
  · rintro (h | h)
    · exact .inl h
    · exact .inr (.inr (.inl h))
  · rintro (h | h | h | ⟨a, ha, _⟩)
    · exact .inl h
    · cases h
    · exact .inr h
    · cases ha

/-- what is remembered, of both -/
theorem rem_both {w : World} {g d n K : Nat} {S : Nat → Prop} (h : Both w g d n K S) (hK : K < 9223372036854775807) :
    ∃ c : Nat, c ≤ n ∧ Calls Try.prog 11 #[.pointer (some ⟨g, 0, none⟩), .pointer (some ⟨d, 0, none⟩)] w fun e w' => e = .returned (.int .i64 c) ∧ Same w w' := by
  obtain ⟨cl, ls, L, es, last, A, C, hst, h1, h2, _⟩ := h
  exact ⟨_, rem_le hst.lnk hst.pos, rem_any g d n cl ls L es last A C w hst (by omega) (by omega)⟩

set_option maxHeartbeats 2000000 in
theorem plays_walk (p : Int) (A : Option Addr) (n c : Nat) (ops : List Opn) (w : World) (hs : Sl w 6 Opn.cells A n ops) (hr : n * 32 ≤ 140737488351232) :
    Calls Try.prog 3 #[.int .i64 p, .slice A n c] w fun e w' => e = .returned (.bool true) ∧ Below w.heap.size w w' := by
  obtain rfl := hs.len
  have HS := Lib.hid hs
  clear hs
  go_enter Try.func3, Try.ntmps3
  go_wp2_with (fail)
  refine (awake_any w).mono ?_
  rintro e w1 ⟨rfl, hs1⟩
  go_wp2_with (fail)
  by_cases hp : p < 1 ∨ 1048576 < p
  · refine (new_bad p w1 hp).mono ?_
    rintro e w2 ⟨rfl, rfl⟩
    go_wp2_with (fail)
    refine (docnew_bad p w1 hp).mono ?_
    rintro e w2 ⟨rfl, rfl⟩
    clear hp
    go_wp2
    go_ret
    exact ⟨rfl, hs1.to_below (Nat.le_refl _) (fun _ _ => id)⟩
  · obtain ⟨N, rfl⟩ : ∃ N : Nat, p = N := ⟨p.toNat, by omega⟩
    have hN1 : 0 < N := by omega
    have hN2 : N ≤ 1048576 := by omega
    clear hp
    refine (new_ok N w1 (by omega) (by omega)).mono ?_
    rintro e w2 ⟨rfl, h2⟩
    go_wp2_with (fail)
    refine (docnew_ok N w2 (by omega) (by omega)).mono ?_
    rintro e w3 ⟨rfl, h3⟩
    have hB := St.new hN1 hN2 h2 h3
    have hs2 : Same w w3 := by
      subst h2 h3
      exact (hs1.alloc _).alloc _
    have hw1 : w.heap.size ≤ w1.heap.size := hs1.size
    have hw2 : w1.heap.size ≤ w2.heap.size := by subst h2; simp
    clear h2 h3
    go_wp2_with (fail)
    have hS0 : ∀ b, b = w1.heap.size ∨ b = w2.heap.size → w.heap.size ≤ b := by rintro b (h | h) <;> omega
    have hb0 : Below w.heap.size w w3 := hs2.to_below (Nat.le_refl _) (fun _ _ => id)
    clear hs2 hs1 hw1 hw2
    generalize w1.heap.size = g at *
    generalize w2.heap.size = d at *
    go_loopw [38] (fun i wr => ∃ (m : Nat) (S : Nat → Prop), m ≤ ops.length ∧ i = .int .i64 m ∧ Both wr g d N m S ∧ Below w.heap.size w wr ∧ ∀ b, S b → w.heap.size ≤ b) (fun i _ => ops.length - (intOf i).toNat)
    case atStart => exact ⟨0, _, by omega, rfl, hB, hb0, hS0⟩
    case round =>
      clear hB hS0 hb0
      obtain ⟨m, S, hm, rfl, hBr, hbr, hSr⟩ := hrel
      by_cases hlt : m < ops.length
      · obtain ⟨o, ho⟩ : ∃ o, ops[m]? = some o := ⟨_, List.getElem?_eq_getElem hlt⟩
        obtain ⟨sb, off, rfl, hsb, hc⟩ := (HS.out.later hbr).get m o ho
        have l0 : wr.cell? ⟨sb, off + m * 6, none⟩ = some (.int .i64 o.kind) := hc 0 (by omega)
        have l1 : wr.cell? ⟨sb, off + m * 6 + 1, none⟩ = some (.int .u8 o.k.o) := hc 1 (by omega)
        have l2 : wr.cell? ⟨sb, off + m * 6 + 2, none⟩ = some (.int .u32 o.k.a) := hc 2 (by omega)
        have l3 : wr.cell? ⟨sb, off + m * 6 + 3, none⟩ = some (.int .u32 o.k.b) := hc 3 (by omega)
        have l4 : wr.cell? ⟨sb, off + m * 6 + 4, none⟩ = some (.int .u32 o.k.c) := hc 4 (by omega)
        have l5 : wr.cell? ⟨sb, off + m * 6 + 5, none⟩ = some (.int .u32 o.r) := hc 5 (by omega)
        have hi0 : (0 : Int) ≤ m := by omega
        have hi1 : (m : Int) < ops.length := by omega
        have HB := Lib.hid hBr
        have HBL := Lib.hid hbr
        have HSS := Lib.hid hSr
        clear hc ho hBr hbr hSr
        go_wp2_with (fail)
        refine call_world fun v1 hv1 => ?_
        have ha1 : Same wr v1 := by rw [hv1]; exact (Frm.refl _ _).alloc _
        clear hv1 l0 l1 l2 l3 l4 l5
        refine (one_any g d N m S o.kind o.k o.r v1 (HB.out.frm ha1 (fun _ _ => id)) (by omega)).mono ?_
        rintro e v2 ⟨rfl, S2, hB2, hf2, hS2⟩
        obtain ⟨q, hqN, hcall⟩ := rem_both hB2 (by omega)
        have hq0 : ¬ (q : Int) < 0 := by omega
        have hq1 : (q : Int) ≤ N := by omega
        have HB2 := Lib.hid hB2
        clear hB2
        go_wp2_with (fail)
        refine hcall.mono ?_
        rintro e v3 ⟨rfl, ha3⟩
        clear hcall
        have hz1 := ha1.size
        have hzb := HBL.out.size
        have hb3 : Below w.heap.size w v3 := (HBL.out.trans (((ha1.mono (S' := S) (fun _ _ h => h.elim)).trans hf2 (fun _ _ h => h)).to_below hzb (fun i hi h => by have := HSS.out i h; omega))).trans (ha3.to_below (by have := hf2.size; omega) (fun _ _ => id))
        have hS3 : ∀ b, S2 b → w.heap.size ≤ b := by
          intro b hb
          rcases hS2 b hb with h | h
          · exact HSS.out b h
          · omega
        have HB3 := Lib.hid (HB2.out.frm ha3 (fun _ _ => id))
        clear hf2 ha1 ha3 HBL HB HB2 hS2 HSS hz1 hzb
        go_wp2
        go_roundw
        case rel => exact ⟨m + 1, S2, by omega, by go_num, HB3.out, hb3, hS3⟩
        case measure => simp [intOf]; omega
      · obtain rfl : m = ops.length := by omega
        clear hBr hSr
        go_wp2
        go_ret
        exact ⟨rfl, hbr⟩
end Go.Proofs.Ytbajlmaceapfpaa
