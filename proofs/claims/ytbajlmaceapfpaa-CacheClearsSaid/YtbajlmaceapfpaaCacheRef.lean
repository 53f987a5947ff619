/- The contracts of the reference's cache. -/
import Derived.Test.YtbajlmaceapfpaaCachePut
namespace Go.Proofs.Ytbajlmaceapfpaa
open Go.RowKit Go.Tk

/-- a question with its answer -/
structure Ent where
  k : Ky
  r : Int
def Ent.cells (e : Ent) : List Value := [.int .u8 e.k.o, .int .u32 e.k.a, .int .u32 e.k.b, .int .u32 e.k.c, .int .u32 e.r]
theorem Ent.cells_len (e : Ent) : e.cells.length = 5 := rfl
def findN (es : List Ent) (k : Ky) : Nat := es.findIdx (fun e => decide (e.k = k))
def findI (es : List Ent) (k : Ky) : Int := if findN es k < es.length then findN es k else -1

set_option maxHeartbeats 1000000 in
theorem find_any (d : Nat) (A : Option Addr) (N C : Nat) (v0 v2 v3 : Value) (es : List Ent) (k : Ky) (w : World) (hb : Blk w d 55 #[v0, .slice A N C, v2, v3])
    (ho : Own w 62 5 Ent.cells A N C es) (hmax : es.length < 9223372036854775807) :
    Calls Try.prog 21 #[.pointer (some ⟨d, 0, none⟩), k.val] w fun e w' => e = .returned (.int .i64 (findI es k)) ∧ Same w w' := by
  have h1 := hb.cell 1
  have hd := hb.lt
  simp at h1
  obtain rfl := ho.len
  have hcell := fun i e => ho.get (i := i) (x := e) Ent.cells_len
  clear ho hb
  unfold Ky.val
  go_enter Try.func21, Try.ntmps21
  go_wp2
  refine wp_world fun w1 hw1 => ?_
  have hs1 : Same w w1 := by rw [hw1]; exact (Frm.refl _ _).alloc _
  have hX := Blk.new w 57 #[.int .u8 k.o, .int .u32 k.a, .int .u32 k.b, .int .u32 k.c]
  rw [← hw1] at hX
  clear hw1
  go_loopw [5, 11] (fun _ i wr => ∃ n : Nat, n ≤ es.length ∧ i = .int .i64 n ∧ (∀ j e, es[j]? = some e → j < n → e.k ≠ k) ∧ Same w1 wr) (fun _ i _ => es.length - (intOf i).toNat)
  case atStart => exact ⟨0, by omega, rfl, fun _ _ _ h => by omega, Frm.refl _ _⟩
  case round =>
    obtain ⟨n, hn, rfl, hne, hsr⟩ := hrel
    have hsw : Same w wr := hs1.trans hsr (fun _ _ h => h)
    by_cases hlt : n < es.length
    · obtain ⟨e, he⟩ : ∃ e, es[n]? = some e := ⟨_, List.getElem?_eq_getElem hlt⟩
      obtain ⟨sb, rfl, hsb, hc⟩ := hcell n e he
      have hc1 : ∀ j, j < 5 → wr.cell? ⟨sb, n * 5 + j, none⟩ = e.cells[j]? := fun j hj => by rw [← hc j hj]; exact hsw.cell hsb id
      have hX1 := hX.frm hsr id
      have hd1 : d < wr.heap.size := Nat.lt_of_lt_of_le hd hsw.size
      have hs1 : sb < wr.heap.size := Nat.lt_of_lt_of_le hsb hsw.size
      rw [← hsw.cell (by simpa using hd) id] at h1
      have l0 : wr.cell? ⟨sb, n * 5, none⟩ = some (.int .u8 e.k.o) := hc1 0 (by omega)
      have l1 : wr.cell? ⟨sb, n * 5 + 1, none⟩ = some (.int .u32 e.k.a) := hc1 1 (by omega)
      have l2 : wr.cell? ⟨sb, n * 5 + 2, none⟩ = some (.int .u32 e.k.b) := hc1 2 (by omega)
      have l3 : wr.cell? ⟨sb, n * 5 + 3, none⟩ = some (.int .u32 e.k.c) := hc1 3 (by omega)
      have x0 := hX1.cell 0
      have x1 := hX1.cell 1
      have x2 := hX1.cell 2
      have x3 := hX1.cell 3
      have hx1 := hX1.lt
      simp at x0 x1 x2 x3
      have heq : ∀ w, (binOp .eql 57 (.agg #[.int .u8 e.k.o, .int .u32 e.k.a, .int .u32 e.k.b, .int .u32 e.k.c]) (.agg #[.int .u8 k.o, .int .u32 k.a, .int .u32 k.b, .int .u32 k.c])).run Try.prog w = .ok (.bool (decide (e.k = k))) w := fun w => eql_rkey e.k k w
      have hi0 : (0 : Int) ≤ n := by omega
      have hi1 : (n : Int) < es.length := by omega
      have HN := Lib.hid hne
      have HE := Lib.hid he
      clear hne he hc hc1 hcell hX1 hX
      by_cases hk : e.k = k
      · rw [show decide (e.k = k) = true from by simp [hk]] at heq
        have HK := Lib.hid hk
        clear hk
        go_wp2
        refine wp_quiet (by kernel_rfl) (by kernel_rfl) ?_
        repeat (any_goals (first | go_big_quiet_step (fail) | quiet_step (fail)))
        all_goals (refine wpQuiet_nil ?_; rintro _ ⟨q, rfl⟩)
        go_wp2
        go_ret
        refine ⟨?_, hsw.trans (more_same _ _) (fun _ _ h => h)⟩
        have hf : findN es k = n := by
          unfold findN
          rw [List.findIdx_eq hlt]
          have he := HE.out
          rw [List.getElem?_eq_getElem hlt] at he
          injection he with he
          refine ⟨by rw [he]; simp [HK.out], fun j hj => ?_⟩
          simp [HN.out j _ (List.getElem?_eq_getElem (by omega)) hj]
        unfold findI
        rw [hf, if_pos hlt]
        rfl
      · rw [show decide (e.k = k) = false from by simp [hk]] at heq
        have HK := Lib.hid hk
        clear hk
        go_wp2
        refine wp_quiet (by kernel_rfl) (by kernel_rfl) ?_
        repeat (any_goals (first | go_big_quiet_step (fail) | quiet_step (fail)))
        all_goals (refine wpQuiet_nil ?_; rintro _ ⟨q, rfl⟩)
        go_wp2
        go_roundw
        case rel =>
          refine ⟨n + 1, by omega, by go_num, fun j e' hj hjn => ?_, hsr.trans (more_same _ _) (fun _ _ h => h)⟩
          rcases Nat.lt_or_ge j n with h | h
          · exact HN.out j e' hj h
          · have : j = n := by omega
            subst this
            have he := HE.out
            rw [he] at hj
            injection hj with hj
            subst hj
            exact HK.out
        case measure => simp [intOf]; omega
    · obtain rfl : n = es.length := by omega
      have HN := Lib.hid hne
      clear hne hcell hX
      go_wp2
      go_ret
      refine ⟨?_, hsw⟩
      have hf : findN es k = es.length := by
        unfold findN
        rw [List.findIdx_eq_length]
        intro x hx
        obtain ⟨j, hj, rfl⟩ := List.getElem_of_mem hx
        simp [HN.out j _ (List.getElem?_eq_getElem hj) hj]
      unfold findI
      rw [hf, if_neg (by omega)]
      rfl
end Go.Proofs.Ytbajlmaceapfpaa
