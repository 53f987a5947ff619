/- A cache beside the reference's: one call, and what is remembered. -/
import Derived.Test.YtbajlmaceapfpaaCacheMay
namespace Go.Proofs.Ytbajlmaceapfpaa
open Go.RowKit Go.Tk

def lv : Option Nat → Nat → Value
  | none, _ => .slice none 0 0
  | some L, n => .slice (some ⟨L, 0, none⟩) n n
def LinesOk (w : World) : Option Nat → Nat → List Ln → Prop
  | none, n, ls => ls = List.replicate n zeroLn
  | some L, _, ls => Blk w L 64 (ls.flatMap Ln.cells).toArray
/-- the blocks of both -/
def Fp (g : Nat) (L : Option Nat) (d : Nat) (A : Option Addr) (b : Nat) : Prop := b = g ∨ L = some b ∨ b = d ∨ rowOf A b
structure St (w : World) (g d n cl : Nat) (ls : List Ln) (L : Option Nat) (es : List Ent) (last : Int) (A : Option Addr) (C : Nat) : Prop where
  pos : 0 < n
  max : n ≤ 1048576
  blk : Blk w g 52 #[lv L n, .int .i64 n, .int .u64 cl]
  lines : LinesOk w L n ls
  rblk : Blk w d 55 #[.int .i64 n, .slice A es.length C, .int .i64 last, .int .u64 cl]
  own : Own w 62 5 Ent.cells A es.length C es
  lnk : Lnk n cl ls es last
def Both (w : World) (g d n K : Nat) (S : Nat → Prop) : Prop := ∃ (cl : Nat) (ls : List Ln) (L : Option Nat) (es : List Ent) (last : Int) (A : Option Addr) (C : Nat),
  St w g d n cl ls L es last A C ∧ cl ≤ K ∧ es.length ≤ K ∧ ∀ b, S b ↔ Fp g L d A b

theorem LinesOk.frm {w w' : World} {S : Nat → Prop} {L : Option Nat} {n : Nat} {ls : List Ln} (h : LinesOk w L n ls) (hf : Frm S w w') (hs : ∀ b, L = some b → ¬ S b) : LinesOk w' L n ls := by
  cases L with
  | none => exact h
  | some L => exact Blk.frm h hf (hs L rfl)
theorem St.frm {w w' : World} {S : Nat → Prop} {g d n cl : Nat} {ls : List Ln} {L : Option Nat} {es : List Ent} {last : Int} {A : Option Addr} {C : Nat} (h : St w g d n cl ls L es last A C) (hf : Frm S w w') (hs : ∀ b, Fp g L d A b → ¬ S b) :
    St w' g d n cl ls L es last A C :=
  ⟨h.pos, h.max, h.blk.frm hf (hs _ (.inl rfl)), h.lines.frm hf (fun b hb => hs b (.inr (.inl hb))), h.rblk.frm hf (hs _ (.inr (.inr (.inl rfl)))), h.own.frm hf (fun a ha => hs _ (.inr (.inr (.inr ⟨a, ha, rfl⟩)))), h.lnk⟩
theorem Both.frm {w w' : World} {T S : Nat → Prop} {g d n K : Nat} (h : Both w g d n K S) (hf : Frm T w w') (hs : ∀ b, S b → ¬ T b) : Both w' g d n K S := by
  obtain ⟨cl, ls, L, es, last, A, C, hst, h1, h2, h3⟩ := h
  exact ⟨cl, ls, L, es, last, A, C, hst.frm hf (fun b hb => hs b ((h3 b).2 hb)), h1, h2, h3⟩
theorem St.lt {w : World} {g d n cl : Nat} {ls : List Ln} {L : Option Nat} {es : List Ent} {last : Int} {A : Option Addr} {C : Nat} (h : St w g d n cl ls L es last A C) : ∀ b, Fp g L d A b → b < w.heap.size := by
  rintro b (rfl | h1 | rfl | ⟨a, ha, rfl⟩)
  · exact h.blk.lt
  · subst h1; exact Blk.lt (t := 64) h.lines
  · exact h.rblk.lt
  · exact h.own.block a ha
theorem Both.lt {w : World} {S : Nat → Prop} {g d n K : Nat} (h : Both w g d n K S) : ∀ b, S b → b < w.heap.size := by
  obtain ⟨cl, ls, L, es, last, A, C, hst, h1, h2, h3⟩ := h
  exact fun b hb => hst.lt b ((h3 b).1 hb)
theorem Both.mono {w : World} {S : Nat → Prop} {g d n K K' : Nat} (h : Both w g d n K S) (hk : K ≤ K') : Both w g d n K' S := by
  obtain ⟨cl, ls, L, es, last, A, C, hst, h1, h2, h3⟩ := h
  exact ⟨cl, ls, L, es, last, A, C, hst, by omega, by omega, h3⟩

/-- the two rows lie apart -/
theorem St.apart {w : World} {g d n cl : Nat} {ls : List Ln} {L : Option Nat} {es : List Ent} {last : Int} {A : Option Addr} {C : Nat} (h : St w g d n cl ls L es last A C) :
    g ≠ d ∧ (∀ b, L = some b → b ≠ g ∧ b ≠ d ∧ ¬ rowOf A b) ∧ (∀ b, rowOf A b → b ≠ g ∧ b ≠ d) := by
  refine ⟨h.blk.ne h.rblk (by decide), ?_, ?_⟩
  · intro b hb
    subst hb
    have hL : Blk w b 64 (ls.flatMap Ln.cells).toArray := h.lines
    exact ⟨hL.ne h.blk (by decide), hL.ne h.rblk (by decide), fun ⟨a, ha, hab⟩ => h.own.ne_blk hL (by decide) a ha hab⟩
  · rintro b ⟨a, ha, rfl⟩
    exact ⟨h.own.ne_blk h.blk (by decide) a ha, h.own.ne_blk h.rblk (by decide) a ha⟩

/-- Get of a cache, allocated or not. -/
theorem get_st {w : World} {g n cl : Nat} {ls : List Ln} {L : Option Nat} (pos : 0 < n) (max : n ≤ 1048576) (blk : Blk w g 52 #[lv L n, .int .i64 n, .int .u64 cl]) (lines : LinesOk w L n ls) (hlen : ls.length = n) (hc : cl < 9223372036854775807) (k : Ky) :
    ∃ l, ls[k.at n]? = some l ∧ Calls Try.prog 14 #[.pointer (some ⟨g, 0, none⟩), k.val] w fun e w' => e = .returned (.tuple #[.int .u32 (ansR l k cl), .bool (hit l k cl)]) ∧ Same w w' := by
  have hi : k.at n < n := idx_lt pos _ _ _ _
  cases L with
  | none =>
    have : ls = List.replicate n zeroLn := lines
    subst this
    refine ⟨zeroLn, by simp [hi], ?_⟩
    have hg : ¬ (zeroLn.gen = (cl : Int) + 1) := by show ¬ ((0 : Int) = cl + 1); omega
    have h0 : hit zeroLn k cl = false := by simp [hit, hg]
    refine (get_none g n cl k w blk).mono fun e w' h => ?_
    simpa [ansR, h0] using h
  | some L =>
    have hL : Blk w L 64 (ls.flatMap Ln.cells).toArray := lines
    obtain ⟨l, hl⟩ : ∃ l, ls[k.at n]? = some l := ⟨_, List.getElem?_eq_getElem (by omega)⟩
    refine ⟨l, hl, get_some g n cl L _ k l w rfl blk hL.lt (fun j hj => ?_) pos (by omega) hc⟩
    rw [hL.cell, List.getElem?_toArray, flat_get _ 6 Ln.cells_len _ _ _ hj, hl]
    rfl
/-- Put of a cache, allocated or not. -/
theorem put_st {w : World} {g n cl : Nat} {ls : List Ln} {L : Option Nat} (pos : 0 < n) (max : n ≤ 1048576) (blk : Blk w g 52 #[lv L n, .int .i64 n, .int .u64 cl]) (lines : LinesOk w L n ls) (hlen : ls.length = n) (hc : cl < 9223372036854775807) (k : Ky) (r : Int) :
    Calls Try.prog 12 #[.pointer (some ⟨g, 0, none⟩), k.val, .int .u32 r] w fun e w' => e = .returned (.tuple #[]) ∧
      ∃ L', Blk w' g 52 #[lv L' n, .int .i64 n, .int .u64 cl] ∧ LinesOk w' L' n (ls.set (k.at n) ⟨k, r, (cl : Int) + 1⟩) ∧ Frm (fun b => b = g ∨ L = some b) w w' ∧ (∀ b, L' = some b → L = some b ∨ w.heap.size ≤ b) := by
  have hi : k.at n < n := idx_lt pos _ _ _ _
  cases L with
  | none =>
    have : ls = List.replicate n zeroLn := lines
    subst this
    refine (put_none g n cl _ k r w rfl blk hi (by omega) hc).mono fun e w' ⟨h1, h2, h3, h4⟩ => ⟨h1, some (w.heap.size + 1), h2, h3, h4.mono (fun i _ h => .inl h), fun b hb => ?_⟩
    injection hb with hb
    right; omega
  | some L =>
    have hL : Blk w L 64 (ls.flatMap Ln.cells).toArray := lines
    obtain ⟨l, hl⟩ : ∃ l, ls[k.at n]? = some l := ⟨_, List.getElem?_eq_getElem (by omega)⟩
    refine (put_some g n cl L _ k r l ls w rfl blk hL hl pos (by omega) hc).mono fun e w' ⟨h1, h2, h3⟩ => ⟨h1, some L, ?_, h2, h3.mono (fun i _ h => .inr (by rw [h])), fun b hb => .inl hb⟩
    exact blk.frm h3 (blk.ne hL (by decide))

/-- an operation's value -/
def opVal (kind : Int) (k : Ky) (r : Int) : Value := .agg #[.int .i64 kind, .int .u8 k.o, .int .u32 k.a, .int .u32 k.b, .int .u32 k.c, .int .u32 r]

theorem gen_same (g n cl : Nat) (lv : Value) (w : World) (hb : Blk w g 52 #[lv, .int .i64 n, .int .u64 cl]) :
    Calls Try.prog 15 #[.pointer (some ⟨g, 0, none⟩)] w fun e w' => e = .returned (.int .u64 cl) ∧ Same w w' :=
  (gen_any g n cl lv w hb).mono fun _ _ ⟨h, h2⟩ => ⟨h, h2 ▸ Frm.refl _ _⟩
set_option maxHeartbeats 1000000 in
theorem one_any (g d n K : Nat) (S : Nat → Prop) (kind : Int) (k : Ky) (r : Int) (w : World) (hb : Both w g d n K S) (hK : (K + 1) * 20 ≤ 140737488355328) :
    Calls Try.prog 10 #[.pointer (some ⟨g, 0, none⟩), .pointer (some ⟨d, 0, none⟩), opVal kind k r] w fun e w' => e = .returned (.bool true) ∧ ∃ S', Both w' g d n (K + 1) S' ∧ Frm S w w' ∧ ∀ b, S' b → S b ∨ w.heap.size ≤ b := by
  have HB := Lib.hid hb
  clear hb
  unfold opVal
  by_cases k1 : kind = 1
  · subst k1
    go_enter Try.func10, Try.ntmps10
    go_wp2_with (fail)
    refine call_world fun w1 hw1 => ?_
    have hs1 : Same w w1 := by rw [hw1]; exact (Frm.refl _ _).alloc _
    have hX := Blk.new w 36 #[.int .i64 1, .int .u8 k.o, .int .u32 k.a, .int .u32 k.b, .int .u32 k.c, .int .u32 r]
    rw [← hw1] at hX
    clear hw1
    obtain ⟨cl, ls, L, es, last, A, C, hst, hcl, hes, hS⟩ := HB.out.frm hs1 (fun _ _ => id)
    have hap := hst.apart
    have hst1 := hst
    refine (put_st hst.pos hst.max hst.blk hst.lines hst.lnk.len (by omega) k r).mono ?_
    rintro e w2 ⟨rfl, L', hblk, hlines, hf, hL'⟩
    have hXL : ∀ b, L = some b → b ≠ w.heap.size := by
      intro b hb
      have hl := hst.lines
      rw [hb] at hl
      exact Blk.ne hl hX (by decide)
    have hX2 := hX.frm hf (by rintro (h | h); exact hst.blk.ne hX (by decide) h.symm; exact hXL _ h rfl)
    have hR2 := hst.rblk.frm hf (by rintro (h | h); exact hap.1 h.symm; exact (hap.2.1 _ h).2.1 rfl)
    have hO2 := hst.own.frm hf (by rintro a ha (h | h); exact (hap.2.2 _ ⟨a, ha, rfl⟩).1 h; exact (hap.2.1 _ h).2.2 ⟨a, ha, rfl⟩)
    have x0 := hX2.cell 0
    have x1 := hX2.cell 1
    have x2 := hX2.cell 2
    have x3 := hX2.cell 3
    have x4 := hX2.cell 4
    have x5 := hX2.cell 5
    have hx := hX2.lt
    simp at x0 x1 x2 x3 x4 x5
    have hlnk := hst.lnk
    have hpos := hst.pos
    have hmax := hst.max
    have hki : k.at n < n := idx_lt hpos _ _ _ _
    have HL := Lib.hid hL'
    have HS := Lib.hid hS
    clear hst hX hX2 hL' hXL hS
    go_wp2_with (fail)
    refine wp_quiet_tail 6 (by kernel_rfl) (by kernel_rfl) ?_
    simp only [List.take_succ_cons, List.take_zero, List.drop_succ_cons, List.drop_zero]
    repeat (any_goals (first | go_big_quiet_step ((go_at_call 17; exact quiet_call (key_any k _))) | quiet_step ((go_at_call 17; exact quiet_call (key_any k _)))))
    refine wpQuiet_nil ?_
    rintro _ ⟨q, rfl⟩
    have hq := more_same w2 q
    have hR3 := hR2.frm hq id
    have hO3 := hO2.frm hq (fun _ _ => id)
    go_wp2_with (fail)
    have key : ∃ (es' : List Ent) (last' : Int), Lnk n cl (ls.set (k.at n) ⟨k, r, (cl : Int) + 1⟩) es' last' ∧ es'.length ≤ K + 1 ∧
        Calls Try.prog 16 #[.pointer (some ⟨d, 0, none⟩), k.val, .int .u32 r] (more w2 q) fun e w' => e = .returned (.tuple #[]) ∧ ∃ A' C', Blk w' d 55 #[.int .i64 n, .slice A' es'.length C', .int .i64 last', .int .u64 cl] ∧
          Own w' 62 5 Ent.cells A' es'.length C' es' ∧ Frm (fun b => b = d ∨ rowOf A b) (more w2 q) w' ∧ (∀ b, rowOf A' b → rowOf A b ∨ (more w2 q).heap.size ≤ b) := by
      rcases findI_cases es k with ⟨h1, h2⟩ | ⟨i, e, h1, he, hk⟩
      · refine ⟨_, _, hlnk.put_new k r h2 hki, by simp; omega, ?_⟩
        refine (rput_new d A _ C _ _ _ es k r _ hR3 hO3 (by omega) h1).mono fun e w' h => ?_
        simpa using h
      · refine ⟨_, _, hlnk.put_old k r i e he hk hki, by simp; omega, ?_⟩
        refine (rput_old d A _ C i _ _ _ es k e r _ hR3 hO3 (by omega) h1 he ⟨_, rfl⟩).mono fun e w' ⟨a1, a2, a3, a4⟩ => ⟨a1, A, C, ?_, ?_, a4, fun b hb => .inl hb⟩
        · simpa using a2
        · simpa using a3
    obtain ⟨es', last', hlnk', hes', hcall⟩ := key
    refine hcall.mono ?_
    rintro e w3 ⟨rfl, A', C', hR4, hO4, hf4, hA'⟩
    clear hcall
    have hG2 : Blk w3 g 52 #[lv L' n, .int .i64 n, .int .u64 cl] := (hblk.frm hq id).frm hf4 (by rintro (h | h); exact hap.1 h; exact (hap.2.2 _ h).1 rfl)
    have hLL : ∀ b, L' = some b → b ≠ d ∧ ¬ rowOf A b := by
      intro b hb
      rcases HL.out b hb with h | h
      · exact (hap.2.1 b h).2
      · have h5 : d < w1.heap.size := by have := hst1.rblk.lt; exact this
        have h6 : ∀ x, rowOf A x → x < w1.heap.size := fun x hx => hst1.lt x (.inr (.inr (.inr hx)))
        exact ⟨by omega, fun h => by have := h6 b h; omega⟩
    have hlines' := (hlines.frm hq (fun _ _ => id)).frm hf4 (fun b hb => by rintro (h | h); exact (hLL b hb).1 h; exact (hLL b hb).2 h)
    have hB9 : Both w3 g d n (K + 1) (Fp g L' d A') := ⟨cl, _, L', es', last', A', C', ⟨hpos, hmax, hG2, hlines', hR4, hO4, hlnk'⟩, by omega, hes', fun _ => Iff.rfl⟩
    have hF9 : Frm S w w3 := by
      have a1 : Frm S w w2 := (hs1.mono (S' := S) (fun _ _ h => h.elim)).trans hf (by rintro i _ (h | h); exact (HS.out i).2 (.inl h); exact (HS.out i).2 (.inr (.inl h)))
      exact (a1.trans hq (fun _ _ h => h.elim)).trans hf4 (by rintro i _ (h | h); exact (HS.out i).2 (.inr (.inr (.inl h))); exact (HS.out i).2 (.inr (.inr (.inr h))))
    have hS9 : ∀ b, Fp g L' d A' b → S b ∨ w.heap.size ≤ b := by
      have z1 := hs1.size
      have z2 := hf.size
      have z3 := hq.size
      rintro b (h | h | h | h)
      · exact .inl ((HS.out b).2 (.inl h))
      · rcases HL.out b h with h | h
        · exact .inl ((HS.out b).2 (.inr (.inl h)))
        · right; omega
      · exact .inl ((HS.out b).2 (.inr (.inr (.inl h))))
      · rcases hA' b h with h | h
        · exact .inl ((HS.out b).2 (.inr (.inr (.inr h))))
        · right; omega
    have HB9 := Lib.hid hB9
    have HF9 := Lib.hid hF9
    have HS9 := Lib.hid hS9
    clear hB9 hF9 hS9 hlines hlines' hLL HL HS hf4 hA' hO4 hlnk hlnk' hap hst1 hf hs1 hq hR2 hO2 hR3 hO3 hblk
    have hGG := hG2
    have hDD := hR4
    generalize Fp g L' d A' = S9 at *
    generalize lv L' n = lvv at *
    go_wp2_with (fail)
    have h3 := hDD.cell 3
    have hdl := hDD.lt
    simp at h3
    refine wp_quiet (by kernel_rfl) (by kernel_rfl) ?_
    repeat (any_goals (first | go_big_quiet_step ((go_at_call 15; exact quiet_call (gen_same g n cl lvv _ (hGG.frm (more_same _ _) id)))) | quiet_step ((go_at_call 15; exact quiet_call (gen_same g n cl lvv _ (hGG.frm (more_same _ _) id))))))
    refine wpQuiet_nil ?_
    rintro _ ⟨q9, rfl⟩
    go_wp2
    go_ret
    refine ⟨by simp, S9, HB9.out.frm (more_same _ _) (fun _ _ => id), HF9.out.trans (more_same _ _) (fun _ _ h => h.elim), HS9.out⟩
  · have k1' : (kind == 1) = false := by simpa using k1
    by_cases k2 : kind = 2
    · subst k2
      go_enter Try.func10, Try.ntmps10
      go_wp2_with (fail)
      refine call_world fun w1 hw1 => ?_
      have hs1 : Same w w1 := by rw [hw1]; exact (Frm.refl _ _).alloc _
      have hX := Blk.new w 36 #[.int .i64 2, .int .u8 k.o, .int .u32 k.a, .int .u32 k.b, .int .u32 k.c, .int .u32 r]
      rw [← hw1] at hX
      clear hw1
      obtain ⟨cl, ls, L, es, last, A, C, hst, hcl, hes, hS⟩ := HB.out.frm hs1 (fun _ _ => id)
      obtain ⟨l, hl, hget⟩ := get_st hst.pos hst.max hst.blk hst.lines hst.lnk.len (by omega) k
      refine hget.mono ?_
      rintro e w2 ⟨rfl, hs2⟩
      clear hget
      have hmay := may_ok hst.lnk k l hl
      have hst2 := hst.frm hs2 (fun _ _ => id)
      have hX2 := hX.frm hs2 id
      have x1 := hX2.cell 1
      have x2 := hX2.cell 2
      have x3 := hX2.cell 3
      have x4 := hX2.cell 4
      have hx := hX2.lt
      simp at x1 x2 x3 x4
      have HS := Lib.hid hS
      have HM := Lib.hid hmay
      have HST := Lib.hid hst2
      clear hst hX hX2 hS hmay hst2 hl
      generalize ansR l k cl = R at *
      generalize hit l k cl = O at *
      go_wp2_with (fail)
      refine (key_any k _).mono ?_
      rintro e w3 ⟨rfl, hs3⟩
      go_wp2_with (fail)
      have hst3 := HST.out.frm hs3 (fun _ _ => id)
      refine (may_any d A _ C _ _ last es k R O w3 hst3.rblk hst3.own (by omega)).mono ?_
      rintro e w4 ⟨rfl, hs4⟩
      rw [HM.out]
      have hst4 := hst3.frm hs4 (fun _ _ => id)
      have hB9 : Both w4 g d n (K + 1) S := ⟨cl, ls, L, es, last, A, C, hst4, by omega, by omega, HS.out⟩
      have hF9 : Frm S w w4 := (((hs1.trans hs2 (fun _ _ h => h)).trans hs3 (fun _ _ h => h)).trans hs4 (fun _ _ h => h)).mono (fun _ _ h => h.elim)
      have hS9 : ∀ b, S b → S b ∨ w.heap.size ≤ b := fun _ h => .inl h
      have hGG := hst4.blk
      have hDD := hst4.rblk
      have HB9 := Lib.hid hB9
      have HF9 := Lib.hid hF9
      have HS9 := Lib.hid hS9
      clear hB9 hF9 hS9 hst3 hst4 hs1 hs2 hs3 hs4 x1 x2 x3 x4 hx HST HS HM
      obtain ⟨S9, hS9⟩ : ∃ S9, S9 = S := ⟨_, rfl⟩
      subst hS9
      generalize lv L n = lvv at *
      go_wp2_with (fail)
      have h3 := hDD.cell 3
      have hdl := hDD.lt
      simp at h3
      refine wp_quiet (by kernel_rfl) (by kernel_rfl) ?_
      repeat (any_goals (first | go_big_quiet_step ((go_at_call 15; exact quiet_call (gen_same g n cl lvv _ (hGG.frm (more_same _ _) id)))) | quiet_step ((go_at_call 15; exact quiet_call (gen_same g n cl lvv _ (hGG.frm (more_same _ _) id))))))
      refine wpQuiet_nil ?_
      rintro _ ⟨q9, rfl⟩
      go_wp2
      go_ret
      refine ⟨by simp, S9, HB9.out.frm (more_same _ _) (fun _ _ => id), HF9.out.trans (more_same _ _) (fun _ _ h => h.elim), HS9.out⟩
    · have k2' : (kind == 2) = false := by simpa using k2
      by_cases k3 : kind = 3
      · subst k3
        go_enter Try.func10, Try.ntmps10
        go_wp2_with (fail)
        refine call_world fun w1 hw1 => ?_
        have hs1 : Same w w1 := by rw [hw1]; exact (Frm.refl _ _).alloc _
        clear hw1
        obtain ⟨cl, ls, L, es, last, A, C, hst, hcl, hes, hS⟩ := HB.out.frm hs1 (fun _ _ => id)
        have hap := hst.apart
        refine (clear_any g n cl _ w1 hst.blk (by omega)).mono ?_
        rintro e w2 ⟨rfl, rfl⟩
        have hG2 := hst.blk.set 2 (.int .u64 (cl + 1 : Nat))
        have hf2 : Frm (· = g) w1 (w1.setCell ⟨g, 2, none⟩ (.int .u64 (cl + 1 : Nat))) := (Frm.refl (· = g) _).set _ _ rfl
        have hR2 := hst.rblk.frm hf2 (Ne.symm hap.1)
        have hl2 := hst.lines.frm hf2 (fun b hb => (hap.2.1 b hb).1)
        have HST := Lib.hid hst
        have HS := Lib.hid hS
        have HA := Lib.hid hap
        clear hst hS hap
        generalize w1.setCell ⟨g, 2, none⟩ (.int .u64 (cl + 1 : Nat)) = w2 at *
        go_wp2_with (fail)
        refine (refclear_any d cl _ _ _ w2 hR2 (by omega)).mono ?_
        rintro e w3 ⟨rfl, hR3, hf3⟩
        have hG3 : Blk w3 g 52 #[lv L n, .int .i64 n, .int .u64 (cl + 1 : Nat)] := hG2.frm hf3 HA.out.1
        have hl3 := hl2.frm hf3 (fun b hb => (HA.out.2.1 b hb).2.1)
        have hst3 : St w3 g d n (cl + 1) ls L [] (-1) none 0 := ⟨HST.out.pos, HST.out.max, hG3, hl3, hR3, Own.nil _ _ _ _, HST.out.lnk.clear⟩
        have hB9 : Both w3 g d n (K + 1) (Fp g L d none) := ⟨cl + 1, ls, L, [], -1, none, 0, hst3, by omega, by simp, fun _ => Iff.rfl⟩
        have hF9 : Frm S w w3 := ((hs1.mono (S' := S) (fun _ _ h => h.elim)).trans hf2 (fun i _ h => (HS.out i).2 (.inl h))).trans hf3 (fun i _ h => (HS.out i).2 (.inr (.inr (.inl h))))
        have hS9 : ∀ b, Fp g L d none b → S b ∨ w.heap.size ≤ b := by
          rintro b (h | h | h | ⟨a, ha, _⟩)
          · exact .inl ((HS.out b).2 (.inl h))
          · exact .inl ((HS.out b).2 (.inr (.inl h)))
          · exact .inl ((HS.out b).2 (.inr (.inr (.inl h))))
          · cases ha
        have hGG := hG3
        have hDD := hR3
        have HB9 := Lib.hid hB9
        have HF9 := Lib.hid hF9
        have HS9 := Lib.hid hS9
        clear hB9 hF9 hS9 hst3 hG3 hR3 hG2 hR2 hl2 hl3 hf2 hf3 hs1 HST HS HA
        generalize Fp g L d none = S9 at *
        generalize lv L n = lvv at *
        generalize cl + 1 = cl at *
        go_wp2_with (fail)
        have h3 := hDD.cell 3
        have hdl := hDD.lt
        simp at h3
        refine wp_quiet (by kernel_rfl) (by kernel_rfl) ?_
        repeat (any_goals (first | go_big_quiet_step ((go_at_call 15; exact quiet_call (gen_same g n cl lvv _ (hGG.frm (more_same _ _) id)))) | quiet_step ((go_at_call 15; exact quiet_call (gen_same g n cl lvv _ (hGG.frm (more_same _ _) id))))))
        refine wpQuiet_nil ?_
        rintro _ ⟨q9, rfl⟩
        go_wp2
        go_ret
        refine ⟨by simp, S9, HB9.out.frm (more_same _ _) (fun _ _ => id), HF9.out.trans (more_same _ _) (fun _ _ h => h.elim), HS9.out⟩
      · have k3' : (kind == 3) = false := by simpa using k3
        go_enter Try.func10, Try.ntmps10
        go_wp2_with (fail)
        refine wp_world fun w1 hw1 => ?_
        have hs1 : Same w w1 := by rw [hw1]; exact (Frm.refl _ _).alloc _
        clear hw1
        have hB9 := (HB.out.frm hs1 (fun _ _ => id)).mono (K' := K + 1) (by omega)
        obtain ⟨cl, ls, L, es, last, A, C, hst, hcl, hes, hS⟩ := HB.out.frm hs1 (fun _ _ => id)
        have hGG := hst.blk
        have hDD := hst.rblk
        have hF9 : Frm S w w1 := hs1.mono (fun _ _ h => h.elim)
        have hS9 : ∀ b, S b → S b ∨ w.heap.size ≤ b := fun _ h => .inl h
        have HB9 := Lib.hid hB9
        have HF9 := Lib.hid hF9
        have HS9 := Lib.hid hS9
        clear hB9 hF9 hS9 hst hs1 hS
        obtain ⟨S9, hS9⟩ : ∃ S9, S9 = S := ⟨_, rfl⟩
        subst hS9
        generalize lv L n = lvv at *
        have h3 := hDD.cell 3
        have hdl := hDD.lt
        simp at h3
        refine wp_quiet (by kernel_rfl) (by kernel_rfl) ?_
        repeat (any_goals (first | go_big_quiet_step ((go_at_call 15; exact quiet_call (gen_same g n cl lvv _ (hGG.frm (more_same _ _) id)))) | quiet_step ((go_at_call 15; exact quiet_call (gen_same g n cl lvv _ (hGG.frm (more_same _ _) id))))))
        refine wpQuiet_nil ?_
        rintro _ ⟨q9, rfl⟩
        go_wp2
        go_ret
        refine ⟨by simp, S9, HB9.out.frm (more_same _ _) (fun _ _ => id), HF9.out.trans (more_same _ _) (fun _ _ h => h.elim), HS9.out⟩
end Go.Proofs.Ytbajlmaceapfpaa
