/- The contracts of the reference's arena: find, taken, node, DocAlloc, Used. -/
import Derived.Test.YtkajgopkdolhcaaArSet2
namespace Go.Proofs.Ytkajgopkdolhcaa
open Go.RowKit Go.Tk

/-- a taken place in the reference's list -/
structure Pe where
  r : Int
  n : Nd
  c : Int
def Pe.cells (p : Pe) : List Value := [.int .u32 p.r, .int .i64 p.n.v, .int .u32 p.n.lo, .int .u32 p.n.hi, .int .i64 p.c]
theorem Pe.cells_len (p : Pe) : p.cells.length = 5 := rfl
def fndN (es : List Pe) (r : Int) : Nat := es.findIdx (fun e => decide (e.r = r))
def fndI (es : List Pe) (r : Int) : Int := if fndN es r < es.length then fndN es r else -1
def rtk (es : List Pe) (r : Int) : Bool := decide (r ≤ 1) || decide (0 ≤ fndI es r)
def rnode (es : List Pe) (n : Nd) : Int := if n.v < 0 ∨ 64 ≤ n.v then 2 else if rtk es n.lo = false ∨ rtk es n.hi = false then 3 else 0

structure RSt (w : World) (d : Nat) (pl : Int) (es : List Pe) (B : Option Addr) (D : Nat) : Prop where
  blk : Blk w d 77 #[.int .i64 pl, .slice B es.length D]
  own : Own w 79 5 Pe.cells B es.length D es
  len : es.length ≤ 1048576
def RFp (d : Nat) (B : Option Addr) (b : Nat) : Prop := b = d ∨ rowOf B b
theorem RSt.frm {w w' : World} {S : Nat → Prop} {d : Nat} {pl : Int} {es : List Pe} {B : Option Addr} {D : Nat} (h : RSt w d pl es B D) (hf : Frm S w w') (hs : ∀ b, RFp d B b → ¬ S b) : RSt w' d pl es B D :=
  ⟨h.blk.frm hf (hs _ (.inl rfl)), h.own.frm hf (fun a ha => hs _ (.inr ⟨a, ha, rfl⟩)), h.len⟩
theorem RSt.lt {w : World} {d : Nat} {pl : Int} {es : List Pe} {B : Option Addr} {D : Nat} (h : RSt w d pl es B D) : ∀ b, RFp d B b → b < w.heap.size := by
  rintro b (rfl | ⟨a, ha, rfl⟩)
  · exact h.blk.lt
  · exact h.own.block a ha

section
variable {w : World} {d : Nat} {pl : Int} {es : List Pe} {B : Option Addr} {D : Nat}
set_option maxHeartbeats 1000000 in
theorem RSt.find (h : RSt w d pl es B D) (r : Int) :
    Calls Try.prog 35 #[.pointer (some ⟨d, 0, none⟩), .int .u32 r] w fun e w' => e = .returned (.int .i64 (fndI es r)) ∧ w = w' := by
  have h1 := h.blk.cell 1
  have hd := h.blk.lt
  have hlen := h.len
  simp at h1
  have hcell := fun i e => h.own.get (i := i) (x := e) Pe.cells_len
  clear h
  go_enter Try.func35, Try.ntmps35
  go_wp2
  go_loopw [5, 11] (fun _ i wr => ∃ n : Nat, n ≤ es.length ∧ i = .int .i64 n ∧ (∀ j e, es[j]? = some e → j < n → e.r ≠ r) ∧ w = wr) (fun _ i _ => es.length - (intOf i).toNat)
  case atStart => exact ⟨0, by omega, rfl, fun _ _ _ h => by omega, rfl⟩
  case round =>
    obtain ⟨n, hn, rfl, hne, rfl⟩ := hrel
    by_cases hlt : n < es.length
    · obtain ⟨e, he⟩ : ∃ e, es[n]? = some e := ⟨_, List.getElem?_eq_getElem hlt⟩
      obtain ⟨sb, rfl, hsb, hc⟩ := hcell n e he
      have l0 : w.cell? ⟨sb, n * 5, none⟩ = some (.int .u32 e.r) := hc 0 (by omega)
      have hi0 : (0 : Int) ≤ n := by omega
      have hi1 : (n : Int) < es.length := by omega
      have HN := Lib.hid hne
      have HE := Lib.hid he
      clear hne he hc hcell
      by_cases hk : e.r = r
      · subst hk
        go_wp2
        go_ret
        refine ⟨?_, rfl⟩
        have hf : fndN es e.r = n := by
          unfold fndN
          rw [List.findIdx_eq hlt]
          have he := HE.out
          rw [List.getElem?_eq_getElem hlt] at he
          injection he with he
          refine ⟨by rw [he]; simp, fun j hj => ?_⟩
          simp [HN.out j _ (List.getElem?_eq_getElem (by omega)) hj]
        unfold fndI
        rw [hf, if_pos hlt]
        rfl
      · have hk' : (e.r == r) = false := by simpa using hk
        have HK := Lib.hid hk
        clear hk
        go_wp2
        go_roundw
        case rel =>
          refine ⟨n + 1, by omega, by go_num, fun j e' hj hjn => ?_, trivial⟩
          rcases Nat.lt_or_ge j n with h | h
          · exact HN.out j e' hj h
          · have : j = n := by omega
            subst this
            have he := HE.out
            rw [he] at hj
            injection hj with hj
            subst hj
            exact HK.out
        case measure => simp [intOf]; omega
    · obtain rfl : n = es.length := by omega
      have HN := Lib.hid hne
      clear hne hcell
      go_wp2
      go_ret
      refine ⟨?_, rfl⟩
      have hf : fndN es r = es.length := by
        unfold fndN
        rw [List.findIdx_eq_length]
        intro x hx
        obtain ⟨j, hj, rfl⟩ := List.getElem_of_mem hx
        simp [HN.out j _ (List.getElem?_eq_getElem hj) hj]
      unfold fndI
      rw [hf, if_neg (by omega)]
      rfl
set_option maxHeartbeats 1000000 in
theorem RSt.taken (h : RSt w d pl es B D) (r : Int) :
    Calls Try.prog 38 #[.pointer (some ⟨d, 0, none⟩), .int .u32 r] w fun e w' => e = .returned (.bool (rtk es r)) ∧ w = w' := by
  have F := Lib.hid (h.find r)
  clear h
  by_cases h1 : r ≤ 1
  · go_enter Try.func38, Try.ntmps38
    go_wp2_with (fail)
    go_ret
    exact ⟨ret_bool (by simp [rtk, h1]), rfl⟩
  · go_enter Try.func38, Try.ntmps38
    go_wp2_with (fail)
    refine F.out.mono ?_
    rintro e w1 ⟨rfl, rfl⟩
    go_wp2_with (fail)
    go_ret
    exact ⟨ret_bool (by simp [rtk]; omega), rfl⟩
set_option maxHeartbeats 1000000 in
theorem RSt.used (h : RSt w d pl es B D) :
    Calls Try.prog 33 #[.pointer (some ⟨d, 0, none⟩)] w fun e w' => e = .returned (.int .i64 (es.length + 2)) ∧ w = w' := by
  have h1 := h.blk.cell 1
  have hlen := h.len
  simp at h1
  clear h
  go_enter Try.func33, Try.ntmps33
  go_wp2
  go_ret
  exact ⟨rfl, rfl⟩
set_option maxHeartbeats 1000000 in
theorem RSt.node (h : RSt w d pl es B D) (n : Nd) :
    Calls Try.prog 34 #[.pointer (some ⟨d, 0, none⟩), n.val] w fun e w' => e = .returned (.int .i64 (rnode es n)) ∧ Same w w' := by
  have H := Lib.hid h
  clear h
  unfold Nd.val
  by_cases h1 : n.v < 0
  · go_enter Try.func34, Try.ntmps34
    go_wp2_with (fail)
    go_ret
    exact ⟨ret_int (by simp [rnode, h1]), (Frm.refl _ _).alloc _⟩
  · by_cases h2 : 63 < n.v
    · go_enter Try.func34, Try.ntmps34
      go_wp2_with (fail)
      go_ret
      exact ⟨ret_int (by simp [rnode]; omega), (Frm.refl _ _).alloc _⟩
    · have hs1 : ∀ w', w' = w.alloc (.cells #[.int .i64 n.v, .int .u32 n.lo, .int .u32 n.hi] 34) → Same w w' := fun w' h => by rw [h]; exact (Frm.refl _ _).alloc _
      go_enter Try.func34, Try.ntmps34
      go_wp2_with (fail)
      refine ((H.out.frm (hs1 _ rfl) (fun _ _ => id)).taken n.lo).mono ?_
      rintro e w1 ⟨rfl, rfl⟩
      cases hl : rtk es n.lo with
      | false =>
        go_wp2_with (fail)
        go_ret
        exact ⟨ret_int (by simp only [rnode]; rw [if_neg (by omega), if_pos (.inl hl)]), hs1 _ rfl⟩
      | true =>
        go_wp2_with (fail)
        refine ((H.out.frm (hs1 _ rfl) (fun _ _ => id)).taken n.hi).mono ?_
        rintro e w1 ⟨rfl, rfl⟩
        cases hh : rtk es n.hi with
        | false =>
          go_wp2_with (fail)
          go_ret
          exact ⟨ret_int (by simp only [rnode]; rw [if_neg (by omega), if_pos (.inr hh)]), hs1 _ rfl⟩
        | true =>
          go_wp2_with (fail)
          go_ret
          exact ⟨ret_int (by simp only [rnode]; rw [if_neg (by omega), if_neg (by simp [hl, hh])]), hs1 _ rfl⟩
/-- what the reference says of Alloc -/
def rall (es : List Pe) (pl : Int) (n : Nd) : Int := if rnode es n ≠ 0 then rnode es n else if pl ≤ (es.length : Int) + 2 then 9 else 0
set_option maxHeartbeats 1000000 in
theorem RSt.docAlloc (h : RSt w d pl es B D) (n : Nd) :
    Calls Try.prog 26 #[.pointer (some ⟨d, 0, none⟩), n.val] w fun e w' => e = .returned (.int .i64 (rall es pl n)) ∧ Same w w' := by
  have H := Lib.hid h
  clear h
  unfold Nd.val
  go_enter Try.func26, Try.ntmps26
  go_wp2_with (fail)
  refine call_world fun w1 hw1 => ?_
  have hs1 : Same w w1 := by rw [hw1]; exact (Frm.refl _ _).alloc _
  clear hw1
  refine ((H.out.frm hs1 (fun _ _ => id)).node n).mono ?_
  rintro e w2 ⟨rfl, hs2⟩
  have hs := hs1.trans hs2 (fun _ _ h => h)
  have hst := H.out.frm hs (fun _ _ => id)
  have hd := hst.blk.lt
  have d0 := hst.blk.cell 0
  have d1 := hst.blk.cell 1
  have hlen := hst.len
  simp at d0 d1
  clear hst hs1 hs2
  obtain ⟨q, hq⟩ : ∃ q, rnode es n = q := ⟨_, rfl⟩
  rw [hq]
  have HQ := Lib.hid hq
  clear hq
  by_cases h0 : q = 0
  · subst h0
    by_cases hp : pl ≤ (es.length : Int) + 2
    · have hp' : (es.length : Int) + 2 ≥ pl := hp
      go_wp2_with (fail)
      refine wp_quiet (by kernel_rfl) (by kernel_rfl) ?_
      repeat (any_goals (first | go_big_quiet_step (fail) | quiet_step (fail)))
      all_goals (refine wpQuiet_nil ?_; rintro _ ⟨q, rfl⟩)
      go_wp2
      go_ret
      exact ⟨ret_int (by unfold rall; rw [HQ.out]; simp [hp]), hs.trans (more_same _ _) (fun _ _ h => h)⟩
    · have hp' : ¬ (es.length : Int) + 2 ≥ pl := hp
      go_wp2_with (fail)
      refine wp_quiet (by kernel_rfl) (by kernel_rfl) ?_
      repeat (any_goals (first | go_big_quiet_step (fail) | quiet_step (fail)))
      all_goals (refine wpQuiet_nil ?_; rintro _ ⟨q, rfl⟩)
      go_wp2
      go_ret
      exact ⟨ret_int (by unfold rall; rw [HQ.out]; simp [hp]), hs.trans (more_same _ _) (fun _ _ h => h)⟩
  · have h0' : (q != 0) = true := by simpa using h0
    go_wp2
    go_ret
    exact ⟨ret_int (by unfold rall; rw [HQ.out]; simp [h0]), hs⟩
end
end Go.Proofs.Ytkajgopkdolhcaa
