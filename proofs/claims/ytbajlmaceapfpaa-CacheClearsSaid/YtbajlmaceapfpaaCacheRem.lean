/- How many questions are remembered. -/
import Derived.Test.YtbajlmaceapfpaaCacheOne
namespace Go.Proofs.Ytbajlmaceapfpaa
open Go.RowKit Go.Tk

def hitAt (n cl : Nat) (ls : List Ln) (e : Ent) : Bool := match ls[e.k.at n]? with | some l => hit l e.k cl | none => false
theorem remC_eq (n cl : Nat) (ls : List Ln) (es : List Ent) : remC n cl ls es = es.countP (hitAt n cl ls) := rfl
theorem count_take {α : Type} (p : α → Bool) (l : List α) (i : Nat) (x : α) (h : l[i]? = some x) : (l.take (i + 1)).countP p = (l.take i).countP p + (if p x then 1 else 0) := by
  have hl := lt_of_get h
  rw [List.take_succ_eq_append_getElem hl, List.countP_append]
  rw [List.getElem?_eq_getElem hl] at h
  injection h with h
  rw [h]
  cases hp : p x <;> simp [hp]

set_option maxHeartbeats 1000000 in
theorem rem_any (g d n cl : Nat) (ls : List Ln) (L : Option Nat) (es : List Ent) (last : Int) (A : Option Addr) (C : Nat) (w : World) (hst : St w g d n cl ls L es last A C) (hcl : cl < 9223372036854775807) (hes : es.length < 9223372036854775807) :
    Calls Try.prog 11 #[.pointer (some ⟨g, 0, none⟩), .pointer (some ⟨d, 0, none⟩)] w fun e w' => e = .returned (.int .i64 (remC n cl ls es : Nat)) ∧ Same w w' := by
  have h1 := hst.rblk.cell 1
  simp at h1
  have HST := Lib.hid hst
  clear hst
  go_enter Try.func11, Try.ntmps11
  go_wp2
  clear h1
  go_loopw [5, 15] (fun c i wr => ∃ m : Nat, m ≤ es.length ∧ i = .int .i64 m ∧ c = .int .i64 ((es.take m).countP (hitAt n cl ls) : Nat) ∧ Same w wr) (fun _ i _ => es.length - (intOf i).toNat)
  case atStart => exact ⟨0, by omega, rfl, rfl, Frm.refl _ _⟩
  case round =>
    obtain ⟨m, hm, rfl, rfl, hsr⟩ := hrel
    have hstr := HST.out.frm hsr (fun _ _ => id)
    have hcb : (es.take m).countP (hitAt n cl ls) ≤ m := Nat.le_trans List.countP_le_length (by simp; omega)
    by_cases hlt : m < es.length
    · obtain ⟨e, he⟩ : ∃ e, es[m]? = some e := ⟨_, List.getElem?_eq_getElem hlt⟩
      obtain ⟨sb, rfl, hsb, hc⟩ := hstr.own.get Ent.cells_len he
      have l0 : wr.cell? ⟨sb, m * 5, none⟩ = some (.int .u8 e.k.o) := hc 0 (by omega)
      have l1 : wr.cell? ⟨sb, m * 5 + 1, none⟩ = some (.int .u32 e.k.a) := hc 1 (by omega)
      have l2 : wr.cell? ⟨sb, m * 5 + 2, none⟩ = some (.int .u32 e.k.b) := hc 2 (by omega)
      have l3 : wr.cell? ⟨sb, m * 5 + 3, none⟩ = some (.int .u32 e.k.c) := hc 3 (by omega)
      have l4 : wr.cell? ⟨sb, m * 5 + 4, none⟩ = some (.int .u32 e.r) := hc 4 (by omega)
      have hi0 : (0 : Int) ≤ m := by omega
      have hi1 : (m : Int) < es.length := by omega
      have HE := Lib.hid he
      have HSR := Lib.hid hstr
      have hct := count_take (hitAt n cl ls) es m e he
      have HCT := Lib.hid hct
      clear he hstr hc hct
      generalize (es.take m).countP (hitAt n cl ls) = c at *
      go_wp2_with (fail)
      refine call_world fun w1 hw1 => ?_
      have hs1 : Same wr w1 := by rw [hw1]; exact (Frm.refl _ _).alloc _
      have hX := Blk.new wr 62 #[.int .u8 e.k.o, .int .u32 e.k.a, .int .u32 e.k.b, .int .u32 e.k.c, .int .u32 e.r]
      rw [← hw1] at hX
      clear hw1
      have hst1 := HSR.out.frm hs1 (fun _ _ => id)
      obtain ⟨l, hl, hget⟩ := get_st hst1.pos hst1.max hst1.blk hst1.lines hst1.lnk.len hcl e.k
      have hmay := may_ok hst1.lnk e.k l hl
      have hhit : hitAt n cl ls e = hit l e.k cl := by simp [hitAt, hl]
      refine hget.mono ?_
      rintro e' w2 ⟨rfl, hs2⟩
      clear hget
      have hst2 := hst1.frm hs2 (fun _ _ => id)
      have hX2 := hX.frm hs2 id
      have x0 := hX2.cell 0
      have x1 := hX2.cell 1
      have x2 := hX2.cell 2
      have x3 := hX2.cell 3
      have hx := hX2.lt
      simp at x0 x1 x2 x3
      rw [hhit] at HCT
      have HM := Lib.hid hmay
      have HST2 := Lib.hid hst2
      have hsw : Same w w2 := (hsr.trans hs1 (fun _ _ h => h)).trans hs2 (fun _ _ h => h)
      clear hst1 hst2 hX hX2 hl hhit hmay l0 l1 l2 l3 l4 hs1 hs2
      generalize ansR l e.k cl = R at *
      generalize hit l e.k cl = O at *
      go_wp2_with (fail)
      refine (may_any d _ _ C _ _ last es e.k R O w2 HST2.out.rblk HST2.out.own hes).mono ?_
      rintro e' w3 ⟨rfl, hs3⟩
      rw [HM.out]
      have hsw3 : Same w w3 := hsw.trans hs3 (fun _ _ h => h)
      cases O with
      | true =>
        go_wp2
        go_roundw
        case rel => exact ⟨m + 1, by omega, by go_num, by rw [HCT.out]; simp, hsw3⟩
        case measure => simp [intOf]; omega
      | false =>
        go_wp2
        go_roundw
        case rel => exact ⟨m + 1, by omega, by go_num, by rw [HCT.out]; simp, hsw3⟩
        case measure => simp [intOf]; omega
    · obtain rfl : m = es.length := by omega
      clear hstr
      rw [List.take_length]
      go_wp2
      go_ret
      exact ⟨rfl, hsr⟩
end Go.Proofs.Ytbajlmaceapfpaa
