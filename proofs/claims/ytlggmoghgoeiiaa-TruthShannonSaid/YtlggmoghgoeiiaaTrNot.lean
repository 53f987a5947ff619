/- Truth tables: Const and Not of the program. -/
import Derived.Test.YtlggmoghgoeiiaaTrVar
namespace Go.Proofs.Ytlggmoghgoeiiaa
open Go.RowKit Go.Tk

theorem vb_word {ws : List Nat} {k x j : Nat} (h : ws[k]? = some x) (hj : j < 64) : vb ws (64 * k + j) = x.testBit j := by
  unfold vb
  rw [show (64 * k + j) / 64 = k by omega, show (64 * k + j) % 64 = j by omega, List.getD_eq_getElem?_getD, h]
  rfl
/-- all bits turned -/
def notN (x : Nat) : Nat := 18446744073709551615 - x
theorem notN_lt (x : Nat) : notN x < 18446744073709551616 := by unfold notN; omega
theorem notN_bit {x j : Nat} (hx : x < 18446744073709551616) (hj : j < 64) : (notN x).testBit j = !x.testBit j := by
  have h := Nat.testBit_two_pow_sub_succ (x := x) (n := 64) hx j
  unfold notN
  rw [show 18446744073709551615 - x = 2 ^ 64 - (x + 1) by omega, h]
  simp [hj]
theorem xor_not {x : Nat} (hx : x < 18446744073709551616) : bits .xor .u64 IntKind.u64.max (x : Int) = (notN x : Nat) := by
  have h := u64_xor_nat 18446744073709551615 x (by omega) hx
  rw [show IntKind.u64.max = ((18446744073709551615 : Nat) : Int) by decide, h]
  congr 1
  apply Nat.eq_of_testBit_eq
  intro j
  rw [Nat.testBit_xor, show (18446744073709551615 : Nat) = 2 ^ 64 - 1 by decide, Nat.testBit_two_pow_sub_one]
  by_cases hj : j < 64
  · rw [notN_bit hx hj]
    simp [hj]
  · have h1 : (notN x).testBit j = false := Nat.testBit_lt_two_pow (Nat.lt_of_lt_of_le (notN_lt x) (Nat.pow_le_pow_right (show 0 < 2 by omega) (show 64 ≤ j by omega)))
    have h2 : x.testBit j = false := Nat.testBit_lt_two_pow (Nat.lt_of_lt_of_le hx (Nat.pow_le_pow_right (show 0 < 2 by omega) (show 64 ≤ j by omega)))
    rw [h1, h2]
    simp [hj]
theorem not1_any (i B : Nat) (A : Option Addr) (C : Nat) (ws : List Nat) (w : World) (hi : i < ws.length) (h : WL w A ws.length ws) (hb : Small ws)
    (hc1 : w.cell? ⟨B, 1, none⟩ = some (.slice A ws.length C)) :
    Calls Try.prog 69 #[.int .i64 i, .pointer (some ⟨B, 0, none⟩)] w fun e w' => e = .returned (.int .u64 (notN (ws.getD i 0) : Nat)) ∧ w = w' := by
  obtain ⟨x, hx⟩ : ∃ x, ws[i]? = some x := ⟨_, List.getElem?_eq_getElem hi⟩
  obtain ⟨b, off, rfl, hbl, hc⟩ := h.at1 hx
  have hxor := xor_not (hb.at1 hx)
  have hi0 : (0 : Int) ≤ i := by omega
  have hi1 : (i : Int) < ws.length := by omega
  have hsg : ¬ IntKind.u64.signed = true := by decide
  rw [show ws.getD i 0 = x by rw [List.getD_eq_getElem?_getD, hx]; rfl]
  clear hx
  go_enter Try.func69, Try.ntmps69
  go_wp2
  go_ret
  exact ⟨rfl, rfl⟩
set_option maxHeartbeats 2000000 in
theorem Const_any (n : Int) (b : Bool) (w : World) : Calls Try.prog 25 #[.int .i64 n, .bool b] w (RetA w n (tab n.toNat (fun _ => b)) (cntE n)) := by
  have hmf : ∀ (fn : Fn) (first cap : Array Value) (w : World), (Instr.makeFunc fn first cap).run Try.prog w = .ok (.func fn first cap) w := fun _ _ _ _ => rfl
  have hct := fun w => count_any n w
  obtain ⟨c, hc⟩ : ∃ c, cntE n = c := ⟨_, rfl⟩
  rw [hc] at hct ⊢
  have HCT := Lib.hid hct
  clear hct
  by_cases h0 : ¬ c = 0
  · have h0' : (c != 0) = true := by simpa using h0
    unfold RetA
    rw [show ansN n c = 0 by unfold ansN; rw [if_neg h0], show ansL (tab n.toNat (fun _ => b)) c = [] by unfold ansL; rw [if_neg h0]]
    clear hc h0 hmf
    go_enter Try.func25, Try.ntmps25
    go_upto_region 1 with fail
    refine wp_world fun w1 hw1 => ?_
    have hs1 : Same w w1 := by rw [hw1]; exact ((Frm.refl _ _).alloc _).alloc _
    have hBB : Blk w1 (w.heap.size) 4 #[.bool b] := by
      rw [hw1]
      have := ((Blk.new w 4 #[.bool b]).alloc (.cells #[.int .i64 0, .slice none 0 0] 24))
      simpa using this
    have hBR : Blk w1 (w.heap.size + 1) 24 #[.int .i64 0, .slice none 0 0] := by
      rw [hw1]
      have := (Blk.new (w.alloc (.cells #[.bool b] 4)) 24 #[.int .i64 0, .slice none 0 0])
      simpa using this
    clear hw1
    obtain ⟨R, hR⟩ : ∃ b, w.heap.size + 1 = b := ⟨_, rfl⟩
    rw [hR] at hBR ⊢
    have leR : w.heap.size ≤ R := by omega
    have neBR : w.heap.size ≠ R := by omega
    clear hR
    have cB0 : w1.cell? ⟨w.heap.size, 0, none⟩ = some (.bool b) := hBB.cell 0
    have lB := hBB.lt
    have fB0 := hBB.free 0
    have HBB := Lib.hid hBB
    have cR0 : w1.cell? ⟨R, 0, none⟩ = some (.int .i64 0) := hBR.cell 0
    have cR1 : w1.cell? ⟨R, 1, none⟩ = some (.slice none 0 0) := hBR.cell 1
    have lR := hBR.lt
    have fR0 := hBR.free 0
    have fR1 := hBR.free 1
    have HBR := Lib.hid hBR
    have HS1 := Lib.hid hs1
    clear hs1 hBB hBR
    go_wp2_with (fail)
    refine (HCT.out w1).mono ?_
    rintro e w2 ⟨rfl, rfl⟩
    go_wp2
    refine wp_post fun we hwe => ?_
    have hBE : Blk we R 24 #[.int .i64 0, .slice none 0 0] := by
      rw [hwe]
      have := (HBR.out.set 0 (.int .i64 0)).set 1 (.slice none 0 0)
      simpa using this
    have hSE : Same w we := by rw [hwe]; exact (HS1.out.setNew 0 _ leR).setNew 1 _ leR
    have hr0 : we.cell? ⟨R, 0, none⟩ = some (.int .i64 0) := hBE.cell 0
    have hr1 : we.cell? ⟨R, 1, none⟩ = some (.slice none 0 0) := hBE.cell 1
    clear hwe hBE
    refine bodyPost_ret (v := .tuple #[.agg #[.int .i64 0, .slice none 0 0], .int .i64 c]) (by simp [results, Try.results25, go_sem, hr0, hr1]) rfl ?_
    exact ⟨none, 0, rfl, NewT.nil hSE⟩
  replace h0 : c = 0 := by omega
  subst h0
  obtain ⟨hn0, hn16⟩ := cntE_ok hc
  obtain ⟨N, rfl⟩ := Int.eq_ofNat_of_zero_le hn0
  have hn : N ≤ 16 := by omega
  unfold RetA
  rw [show ansN N 0 = N from rfl, show ansL (tab (N : Int).toNat (fun _ => b)) 0 = tab N (fun _ => b) from rfl]
  have HTB := Lib.hid (laid_tab (n := N) (g := fun _ => if b then 18446744073709551615 else 0) (F := fun _ => b) fun k _ j hj _ => by
    cases b
    · simp
    · simp only [if_true]
      rw [show (18446744073709551615 : Nat) = 2 ^ 64 - 1 by decide, Nat.testBit_two_pow_sub_one]
      simpa using hj)
  have hen : ∀ (args : Array Value) (w : World), (callFunc 64 args).run Try.prog w = .ok (.enter 64 args) w := enters_of Try.func64 (by kernel_rfl) rfl
  have HEN := Lib.hid hen
  clear hc hen
  go_enter Try.func25, Try.ntmps25
  go_upto_region 1 with fail
  refine wp_world fun w1 hw1 => ?_
  have hs1 : Same w w1 := by rw [hw1]; exact ((Frm.refl _ _).alloc _).alloc _
  have hBB : Blk w1 (w.heap.size) 4 #[.bool b] := by
    rw [hw1]
    have := ((Blk.new w 4 #[.bool b]).alloc (.cells #[.int .i64 0, .slice none 0 0] 24))
    simpa using this
  have hBR : Blk w1 (w.heap.size + 1) 24 #[.int .i64 0, .slice none 0 0] := by
    rw [hw1]
    have := (Blk.new (w.alloc (.cells #[.bool b] 4)) 24 #[.int .i64 0, .slice none 0 0])
    simpa using this
  clear hw1
  obtain ⟨R, hR⟩ : ∃ b, w.heap.size + 1 = b := ⟨_, rfl⟩
  rw [hR] at hBR ⊢
  have leR : w.heap.size ≤ R := by omega
  have neBR : w.heap.size ≠ R := by omega
  clear hR
  have cB0 : w1.cell? ⟨w.heap.size, 0, none⟩ = some (.bool b) := hBB.cell 0
  have lB := hBB.lt
  have fB0 := hBB.free 0
  have HBB := Lib.hid hBB
  have cR0 : w1.cell? ⟨R, 0, none⟩ = some (.int .i64 0) := hBR.cell 0
  have cR1 : w1.cell? ⟨R, 1, none⟩ = some (.slice none 0 0) := hBR.cell 1
  have lR := hBR.lt
  have fR0 := hBR.free 0
  have fR1 := hBR.free 1
  have HBR := Lib.hid hBR
  have HS1 := Lib.hid hs1
  clear hs1 hBB hBR
  have htl : Tells w1 N 64 #[.pointer (some ⟨w.heap.size, 0, none⟩)] (fun _ => if b then 18446744073709551615 else 0) := fun i hi => ⟨by cases b <;> simp, fun w' hs' => by
    refine (const1_any i w.heap.size b w' ((hs'.cell (p := ⟨w.heap.size, 0, none⟩) lB id).trans cB0)).mono ?_
    rintro e w'' ⟨rfl, rfl⟩
    exact ⟨rfl, Frm.refl _ _⟩⟩
  have HTL := Lib.hid htl
  clear htl
  go_wp2_with (fail)
  refine (HCT.out w1).mono ?_
  rintro e w2 ⟨rfl, rfl⟩
  go_wp2_with (fail)
  refine (laid_any N 64 #[.pointer (some ⟨w.heap.size, 0, none⟩)] (fun _ => if b then 18446744073709551615 else 0) w1 hn HEN.out HTL.out).mono ?_
  rintro e w3 ⟨Aq, Cq, rfl, hNT⟩
  rw [HTB.out] at hNT ⊢
  have hoq := hNT.1
  have hfq := hNT.2.1
  have hsq := hNT.2.2
  have hRq : ∀ a, Aq = some a → a.block ≠ R := fun a ha h => by
    have := hfq a.block ⟨a, ha, rfl⟩
    omega
  have HBRq := Lib.hid (HBR.out.frm hsq id)
  have HSq := Lib.hid (HS1.out.trans hsq (fun _ _ h => h))
  have hfq' : Fresh w.heap.size Aq := fun b hb => by have := hfq b hb; have := HS1.out.size; omega
  have HOQ := Lib.hid hoq
  have HFQ := Lib.hid hfq'
  have hcR0 : w3.cell? ⟨R, 0, none⟩ = some (.int .i64 0) := HBRq.out.cell 0
  have hcR1 : w3.cell? ⟨R, 1, none⟩ = some (.slice none 0 0) := HBRq.out.cell 1
  have hfR0 := HBRq.out.free 0
  have hfR1 := HBRq.out.free 1
  have hlR := HBRq.out.lt
  clear hNT hoq hfq hsq hfq'
  go_wp2
  refine wp_post fun we hwe => ?_
  have hBE : Blk we R 24 #[.int .i64 N, .slice Aq (tab N (fun _ => b)).length Cq] := by
    rw [hwe]
    have := (HBRq.out.set 0 (.int .i64 N)).set 1 (.slice Aq (tab N (fun _ => b)).length Cq)
    simpa using this
  have hSE : Same w we := by rw [hwe]; exact (HSq.out.setNew 0 _ leR).setNew 1 _ leR
  have hOE : OwnW we Aq (tab N (fun _ => b)).length Cq (tab N (fun _ => b)) := by
    rw [hwe]
    exact (Own.far (p := ⟨R, 0, none⟩) HOQ.out hRq _).far (p := ⟨R, 1, none⟩) hRq _
  have hr0 : we.cell? ⟨R, 0, none⟩ = some (.int .i64 N) := hBE.cell 0
  have hr1 : we.cell? ⟨R, 1, none⟩ = some (.slice Aq (tab N (fun _ => b)).length Cq) := hBE.cell 1
  clear hwe hBE
  refine bodyPost_ret (v := .tuple #[.agg #[.int .i64 N, .slice Aq (tab N (fun _ => b)).length Cq], .int .i64 0]) (by simp [results, Try.results25, go_sem, hr0, hr1]) rfl ?_
  exact ⟨Aq, Cq, rfl, hOE, HFQ.out, hSE⟩

/-- the error of tables -/
def fmE (b : Bool) : Int := if b then 0 else 5
def notF (ws : List Nat) : Nat → Bool := fun i => !vb ws i
theorem frm_one (N : Int) (A : Option Addr) (C : Nat) (ws : List Nat) : fm [⟨N, A, C, ws⟩] = frm N ws := by simp [fm, Tb.frm]
set_option maxHeartbeats 2000000 in
theorem Not_any (Na : Int) (Aa : Option Addr) (Ca : Nat) (wsa : List Nat) (w : World) (h : TbOk w ⟨Na, Aa, Ca, wsa⟩) :
    Calls Try.prog 29 #[.agg #[.int .i64 Na, .slice Aa wsa.length Ca]] w (RetA w Na (tab Na.toNat (notF wsa)) (fmE (frm Na wsa))) := by
  have hmf : ∀ (fn : Fn) (first cap : Array Value) (w : World), (Instr.makeFunc fn first cap).run Try.prog w = .ok (.func fn first cap) w := fun _ _ _ _ => rfl
  have H := Lib.hid h
  clear h
  cases hfr : frm Na wsa with
  | false =>
    unfold RetA
    rw [show fmE false = 5 from rfl, show ansN Na 5 = 0 from rfl, show ansL (tab Na.toNat (notF wsa)) 5 = [] from rfl]
    have HFM := Lib.hid ((frm_one Na Aa Ca wsa).trans hfr)
    clear hfr hmf
    go_enter Try.func29, Try.ntmps29
    go_upto_region 1 with fail
    refine wp_world fun w1 hw1 => ?_
    have hs1 : Same w w1 := by rw [hw1]; exact ((Frm.refl _ _).alloc _).alloc _
    have hBB : Blk w1 (w.heap.size) 24 #[.int .i64 Na, .slice Aa wsa.length Ca] := by
      rw [hw1]
      have := ((Blk.new w 24 #[.int .i64 Na, .slice Aa wsa.length Ca]).alloc (.cells #[.int .i64 0, .slice none 0 0] 24))
      simpa using this
    have hBR : Blk w1 (w.heap.size + 1) 24 #[.int .i64 0, .slice none 0 0] := by
      rw [hw1]
      have := (Blk.new (w.alloc (.cells #[.int .i64 Na, .slice Aa wsa.length Ca] 24)) 24 #[.int .i64 0, .slice none 0 0])
      simpa using this
    clear hw1
    obtain ⟨R, hR⟩ : ∃ b, w.heap.size + 1 = b := ⟨_, rfl⟩
    rw [hR] at hBR ⊢
    have leR : w.heap.size ≤ R := by omega
    have neBR : w.heap.size ≠ R := by omega
    clear hR
    have cB0 : w1.cell? ⟨w.heap.size, 0, none⟩ = some (.int .i64 Na) := hBB.cell 0
    have cB1 : w1.cell? ⟨w.heap.size, 1, none⟩ = some (.slice Aa wsa.length Ca) := hBB.cell 1
    have lB := hBB.lt
    have fB0 := hBB.free 0
    have fB1 := hBB.free 1
    have HBB := Lib.hid hBB
    have cR0 : w1.cell? ⟨R, 0, none⟩ = some (.int .i64 0) := hBR.cell 0
    have cR1 : w1.cell? ⟨R, 1, none⟩ = some (.slice none 0 0) := hBR.cell 1
    have lR := hBR.lt
    have fR0 := hBR.free 0
    have fR1 := hBR.free 1
    have HBR := Lib.hid hBR
    have HS1 := Lib.hid hs1
    clear hs1 hBB hBR
    have HOKa := Lib.hid (H.out.same HS1.out)
    go_wp2_with (fail)
    refine call_world fun w2 hw2 => ?_
    have hs2 : Same w1 w2 := by rw [hw2]; exact (Frm.refl _ _).alloc _
    have hBL : Blk w2 w1.heap.size 24 #[.int .i64 Na, .slice Aa wsa.length Ca] := by rw [hw2]; exact Blk.new _ _ _
    have htbs : Tbs w2 w1.heap.size [⟨Na, Aa, Ca, wsa⟩] := by
      intro i t hi
      match i, hi with
      | 0, hi =>
        simp only [List.getElem?_cons_zero, Option.some.injEq] at hi
        subst hi
        exact ⟨hBL.lt, hBL.cell 0, hBL.cell 1⟩
      | i + 1, hi => simp at hi
    have hfc := form_any w1.heap.size 1 1 [⟨Na, Aa, Ca, wsa⟩] w2 rfl (by decide) htbs (fun t ht => by
      simp only [List.mem_cons, List.not_mem_nil, or_false] at ht
      rcases ht with rfl
      · exact (HOKa.out).same hs2)
    rw [HFM.out] at hfc
    refine hfc.mono ?_
    clear hfc htbs hBL hw2
    rintro e w3 ⟨rfl, hs3⟩
    have hs13 : Same w1 w3 := hs2.trans hs3 (fun _ _ h => h)
    clear hs2 hs3
    replace HBB := Lib.hid (HBB.out.frm hs13 id)
    replace cB0 : w3.cell? ⟨w.heap.size, 0, none⟩ = some (.int .i64 Na) := HBB.out.cell 0
    replace cB1 : w3.cell? ⟨w.heap.size, 1, none⟩ = some (.slice Aa wsa.length Ca) := HBB.out.cell 1
    replace lB := HBB.out.lt
    replace fB0 := HBB.out.free 0
    replace fB1 := HBB.out.free 1
    replace HBR := Lib.hid (HBR.out.frm hs13 id)
    replace cR0 : w3.cell? ⟨R, 0, none⟩ = some (.int .i64 0) := HBR.out.cell 0
    replace cR1 : w3.cell? ⟨R, 1, none⟩ = some (.slice none 0 0) := HBR.out.cell 1
    replace lR := HBR.out.lt
    replace fR0 := HBR.out.free 0
    replace fR1 := HBR.out.free 1
    replace HS1 := Lib.hid (HS1.out.trans hs13 (fun _ _ h => h))
    clear hs13
    go_wp2
    refine wp_post fun we hwe => ?_
    have hBE : Blk we R 24 #[.int .i64 0, .slice none 0 0] := by
      rw [hwe]
      have := (HBR.out.set 0 (.int .i64 0)).set 1 (.slice none 0 0)
      simpa using this
    have hSE : Same w we := by rw [hwe]; exact (HS1.out.setNew 0 _ leR).setNew 1 _ leR
    have hr0 : we.cell? ⟨R, 0, none⟩ = some (.int .i64 0) := hBE.cell 0
    have hr1 : we.cell? ⟨R, 1, none⟩ = some (.slice none 0 0) := hBE.cell 1
    clear hwe hBE
    refine bodyPost_ret (v := .tuple #[.agg #[.int .i64 0, .slice none 0 0], .int .i64 5]) (by simp [results, Try.results29, go_sem, hr0, hr1]) rfl ?_
    exact ⟨none, 0, rfl, NewT.nil hSE⟩
  | true =>
    obtain ⟨n, rfl, hform⟩ := frm_true hfr
    unfold RetA
    rw [show fmE true = 0 from rfl, show ansN n 0 = n from rfl, show ansL (tab (n : Int).toNat (notF wsa)) 0 = tab n (notF wsa) from rfl]
    have HFM := Lib.hid ((frm_one n Aa Ca wsa).trans hfr)
    have hn := hform.n16
    have hsm := H.out.small
    have HTB := Lib.hid (laid_tab (n := n) (g := fun i => notN (wsa.getD i 0)) (F := notF wsa) fun k hk j hj _ => by
      obtain ⟨x, hx⟩ : ∃ x, wsa[k]? = some x := ⟨_, List.getElem?_eq_getElem (by rw [hform.len]; exact hk)⟩
      rw [show wsa.getD k 0 = x by rw [List.getD_eq_getElem?_getD, hx]; rfl, notN_bit (hsm.at1 hx) hj]
      unfold notF
      rw [vb_word hx hj])
    have hen : ∀ (args : Array Value) (w : World), (callFunc 69 args).run Try.prog w = .ok (.enter 69 args) w := enters_of Try.func69 (by kernel_rfl) rfl
    have HEN := Lib.hid hen
    have HLEN := Lib.hid hform.len
    have HSM := Lib.hid hsm
    clear hfr hen hform hsm
    go_enter Try.func29, Try.ntmps29
    go_upto_region 1 with fail
    refine wp_world fun w1 hw1 => ?_
    have hs1 : Same w w1 := by rw [hw1]; exact ((Frm.refl _ _).alloc _).alloc _
    have hBB : Blk w1 (w.heap.size) 24 #[.int .i64 n, .slice Aa wsa.length Ca] := by
      rw [hw1]
      have := ((Blk.new w 24 #[.int .i64 n, .slice Aa wsa.length Ca]).alloc (.cells #[.int .i64 0, .slice none 0 0] 24))
      simpa using this
    have hBR : Blk w1 (w.heap.size + 1) 24 #[.int .i64 0, .slice none 0 0] := by
      rw [hw1]
      have := (Blk.new (w.alloc (.cells #[.int .i64 n, .slice Aa wsa.length Ca] 24)) 24 #[.int .i64 0, .slice none 0 0])
      simpa using this
    clear hw1
    obtain ⟨R, hR⟩ : ∃ b, w.heap.size + 1 = b := ⟨_, rfl⟩
    rw [hR] at hBR ⊢
    have leR : w.heap.size ≤ R := by omega
    have neBR : w.heap.size ≠ R := by omega
    clear hR
    have cB0 : w1.cell? ⟨w.heap.size, 0, none⟩ = some (.int .i64 n) := hBB.cell 0
    have cB1 : w1.cell? ⟨w.heap.size, 1, none⟩ = some (.slice Aa wsa.length Ca) := hBB.cell 1
    have lB := hBB.lt
    have fB0 := hBB.free 0
    have fB1 := hBB.free 1
    have HBB := Lib.hid hBB
    have cR0 : w1.cell? ⟨R, 0, none⟩ = some (.int .i64 0) := hBR.cell 0
    have cR1 : w1.cell? ⟨R, 1, none⟩ = some (.slice none 0 0) := hBR.cell 1
    have lR := hBR.lt
    have fR0 := hBR.free 0
    have fR1 := hBR.free 1
    have HBR := Lib.hid hBR
    have HS1 := Lib.hid hs1
    clear hs1 hBB hBR
    have HOKa := Lib.hid (H.out.same HS1.out)
    go_wp2_with (fail)
    refine call_world fun w2 hw2 => ?_
    have hs2 : Same w1 w2 := by rw [hw2]; exact (Frm.refl _ _).alloc _
    have hBL : Blk w2 w1.heap.size 24 #[.int .i64 n, .slice Aa wsa.length Ca] := by rw [hw2]; exact Blk.new _ _ _
    have htbs : Tbs w2 w1.heap.size [⟨n, Aa, Ca, wsa⟩] := by
      intro i t hi
      match i, hi with
      | 0, hi =>
        simp only [List.getElem?_cons_zero, Option.some.injEq] at hi
        subst hi
        exact ⟨hBL.lt, hBL.cell 0, hBL.cell 1⟩
      | i + 1, hi => simp at hi
    have hfc := form_any w1.heap.size 1 1 [⟨n, Aa, Ca, wsa⟩] w2 rfl (by decide) htbs (fun t ht => by
      simp only [List.mem_cons, List.not_mem_nil, or_false] at ht
      rcases ht with rfl
      · exact (HOKa.out).same hs2)
    rw [HFM.out] at hfc
    refine hfc.mono ?_
    clear hfc htbs hBL hw2
    rintro e w3 ⟨rfl, hs3⟩
    have hs13 : Same w1 w3 := hs2.trans hs3 (fun _ _ h => h)
    clear hs2 hs3
    replace HBB := Lib.hid (HBB.out.frm hs13 id)
    replace cB0 : w3.cell? ⟨w.heap.size, 0, none⟩ = some (.int .i64 n) := HBB.out.cell 0
    replace cB1 : w3.cell? ⟨w.heap.size, 1, none⟩ = some (.slice Aa wsa.length Ca) := HBB.out.cell 1
    replace lB := HBB.out.lt
    replace fB0 := HBB.out.free 0
    replace fB1 := HBB.out.free 1
    replace HBR := Lib.hid (HBR.out.frm hs13 id)
    replace cR0 : w3.cell? ⟨R, 0, none⟩ = some (.int .i64 0) := HBR.out.cell 0
    replace cR1 : w3.cell? ⟨R, 1, none⟩ = some (.slice none 0 0) := HBR.out.cell 1
    replace lR := HBR.out.lt
    replace fR0 := HBR.out.free 0
    replace fR1 := HBR.out.free 1
    replace HS1 := Lib.hid (HS1.out.trans hs13 (fun _ _ h => h))
    clear hs13
    have htl : Tells w3 n 69 #[.pointer (some ⟨w.heap.size, 0, none⟩)] (fun i => notN (wsa.getD i 0)) := fun i hi => ⟨notN_lt _, fun w' hs' => by
      refine (not1_any i w.heap.size Aa Ca wsa w' (by rw [HLEN.out]; exact hi) (Sl.same (Sl.same H.out.wl HS1.out) hs') HSM.out ((hs'.cell (p := ⟨w.heap.size, 1, none⟩) lB id).trans cB1)).mono ?_
      rintro e w'' ⟨rfl, rfl⟩
      exact ⟨rfl, Frm.refl _ _⟩⟩
    have HTL := Lib.hid htl
    clear htl
    go_wp2_with (fail)
    refine (laid_any n 69 #[.pointer (some ⟨w.heap.size, 0, none⟩)] (fun i => notN (wsa.getD i 0)) w3 hn HEN.out HTL.out).mono ?_
    rintro e w4 ⟨Aq, Cq, rfl, hNT⟩
    rw [HTB.out] at hNT ⊢
    have hoq := hNT.1
    have hfq := hNT.2.1
    have hsq := hNT.2.2
    have hRq : ∀ a, Aq = some a → a.block ≠ R := fun a ha h => by
      have := hfq a.block ⟨a, ha, rfl⟩
      omega
    have HBRq := Lib.hid (HBR.out.frm hsq id)
    have HSq := Lib.hid (HS1.out.trans hsq (fun _ _ h => h))
    have hfq' : Fresh w.heap.size Aq := fun b hb => by have := hfq b hb; have := HS1.out.size; omega
    have HOQ := Lib.hid hoq
    have HFQ := Lib.hid hfq'
    have hcR0 : w4.cell? ⟨R, 0, none⟩ = some (.int .i64 0) := HBRq.out.cell 0
    have hcR1 : w4.cell? ⟨R, 1, none⟩ = some (.slice none 0 0) := HBRq.out.cell 1
    have hfR0 := HBRq.out.free 0
    have hfR1 := HBRq.out.free 1
    have hlR := HBRq.out.lt
    clear hNT hoq hfq hsq hfq'
    go_wp2
    refine wp_post fun we hwe => ?_
    have hBE : Blk we R 24 #[.int .i64 n, .slice Aq (tab n (notF wsa)).length Cq] := by
      rw [hwe]
      have := (HBRq.out.set 0 (.int .i64 n)).set 1 (.slice Aq (tab n (notF wsa)).length Cq)
      simpa using this
    have hSE : Same w we := by rw [hwe]; exact (HSq.out.setNew 0 _ leR).setNew 1 _ leR
    have hOE : OwnW we Aq (tab n (notF wsa)).length Cq (tab n (notF wsa)) := by
      rw [hwe]
      exact (Own.far (p := ⟨R, 0, none⟩) HOQ.out hRq _).far (p := ⟨R, 1, none⟩) hRq _
    have hr0 : we.cell? ⟨R, 0, none⟩ = some (.int .i64 n) := hBE.cell 0
    have hr1 : we.cell? ⟨R, 1, none⟩ = some (.slice Aq (tab n (notF wsa)).length Cq) := hBE.cell 1
    clear hwe hBE
    refine bodyPost_ret (v := .tuple #[.agg #[.int .i64 n, .slice Aq (tab n (notF wsa)).length Cq], .int .i64 0]) (by simp [results, Try.results29, go_sem, hr0, hr1]) rfl ?_
    exact ⟨Aq, Cq, rfl, hOE, HFQ.out, hSE⟩
end Go.Proofs.Ytlggmoghgoeiiaa
