/- Truth tables: Ite of the program. -/
import Derived.Test.YtlggmoghgoeiiaaTrForms
namespace Go.Proofs.Ytlggmoghgoeiiaa
open Go.RowKit Go.Tk

def iteN (x y z : Nat) : Nat := (x &&& y) ||| (notN x &&& z)
theorem iteN_lt {x y z : Nat} (hx : x < 18446744073709551616) : iteN x y z < 18446744073709551616 :=
  Nat.or_lt_two_pow (n := 64) (Nat.lt_of_le_of_lt Nat.and_le_left hx) (Nat.lt_of_le_of_lt Nat.and_le_left (notN_lt x))
theorem iteN_bit {x y z j : Nat} (hx : x < 18446744073709551616) (hj : j < 64) : (iteN x y z).testBit j = if x.testBit j then y.testBit j else z.testBit j := by
  unfold iteN
  rw [Nat.testBit_or, Nat.testBit_and, Nat.testBit_and, notN_bit hx hj]
  cases x.testBit j <;> simp
def iteF (wsa wsb wsc : List Nat) : Nat → Bool := fun i => if vb wsa i then vb wsb i else vb wsc i
theorem fm_three {Na Nb Nc : Int} {Aa Ab Ac : Option Addr} {Ca Cb Cc : Nat} {wsa wsb wsc : List Nat} (h : fm [⟨Na, Aa, Ca, wsa⟩, ⟨Nb, Ab, Cb, wsb⟩, ⟨Nc, Ac, Cc, wsc⟩] = true) : ∃ n : Nat, Na = n ∧ Nb = n ∧ Nc = n ∧ FormN n wsa ∧ FormN n wsb ∧ FormN n wsc := by
  simp [fm, Tb.frm] at h
  obtain ⟨h1, ⟨h2, h3⟩, h4, h5⟩ := h
  obtain ⟨n, rfl, ha⟩ := frm_true h1
  rw [h3] at h2
  rw [h5] at h4
  exact ⟨n, rfl, h3, h5, ha, frm_nat.1 h2, frm_nat.1 h4⟩
set_option maxRecDepth 100000 in
set_option maxHeartbeats 2000000 in
theorem ite1_any (i Ba Bb Bc : Nat) (w : World) (Aa : Option Addr) (Ca : Nat) (wsa : List Nat) (hia : i < wsa.length) (ha : WL w Aa wsa.length wsa) (hba : Small wsa) (hca1 : w.cell? ⟨Ba, 1, none⟩ = some (.slice Aa wsa.length Ca)) (Ab : Option Addr) (Cb : Nat) (wsb : List Nat) (hib : i < wsb.length) (hb : WL w Ab wsb.length wsb) (hbb : Small wsb) (hcb1 : w.cell? ⟨Bb, 1, none⟩ = some (.slice Ab wsb.length Cb)) (Ac : Option Addr) (Cc : Nat) (wsc : List Nat) (hic : i < wsc.length) (hc : WL w Ac wsc.length wsc) (hbc : Small wsc) (hcc1 : w.cell? ⟨Bc, 1, none⟩ = some (.slice Ac wsc.length Cc)) :
    Calls Try.prog 72 #[.int .i64 i, .pointer (some ⟨Ba, 0, none⟩), .pointer (some ⟨Bb, 0, none⟩), .pointer (some ⟨Bc, 0, none⟩)] w fun e w' => e = .returned (.int .u64 (iteN (wsa.getD i 0) (wsb.getD i 0) (wsc.getD i 0) : Nat)) ∧ Same w w' := by
  obtain ⟨x, hxa⟩ : ∃ x, wsa[i]? = some x := ⟨_, List.getElem?_eq_getElem hia⟩
  obtain ⟨ba, offa, rfl, hbla, hca⟩ := ha.at1 hxa
  have hbx := hba.at1 hxa
  have hi1a : (i : Int) < wsa.length := by omega
  have hlBa : Ba < w.heap.size := World.block_lt_of_cell? w _ hca1
  rw [show wsa.getD i 0 = x by rw [List.getD_eq_getElem?_getD, hxa]; rfl]
  obtain ⟨y, hxb⟩ : ∃ x, wsb[i]? = some x := ⟨_, List.getElem?_eq_getElem hib⟩
  obtain ⟨bb, offb, rfl, hblb, hcb⟩ := hb.at1 hxb
  have hby := hbb.at1 hxb
  have hi1b : (i : Int) < wsb.length := by omega
  have hlBb : Bb < w.heap.size := World.block_lt_of_cell? w _ hcb1
  rw [show wsb.getD i 0 = y by rw [List.getD_eq_getElem?_getD, hxb]; rfl]
  obtain ⟨z, hxc⟩ : ∃ x, wsc[i]? = some x := ⟨_, List.getElem?_eq_getElem hic⟩
  obtain ⟨bc, offc, rfl, hblc, hcc⟩ := hc.at1 hxc
  have hbz := hbc.at1 hxc
  have hi1c : (i : Int) < wsc.length := by omega
  have hlBc : Bc < w.heap.size := World.block_lt_of_cell? w _ hcc1
  rw [show wsc.getD i 0 = z by rw [List.getD_eq_getElem?_getD, hxc]; rfl]
  have hi0 : (0 : Int) ≤ i := by omega
  have hxorx := xor_not hbx
  have hsg : ¬ IntKind.u64.signed = true := by decide
  have hlx := notN_lt x
  have ha1 := u64_and_nat x y hbx hby
  have ha2 := u64_and_nat (notN x) z hlx hbz
  have ho := u64_or_nat (x &&& y) (notN x &&& z) (Nat.lt_of_le_of_lt Nat.and_le_left hbx) (Nat.lt_of_le_of_lt Nat.and_le_left hlx)
  rw [show (x &&& y) ||| (notN x &&& z) = iteN x y z from rfl] at ho
  generalize iteN x y z = v at ho ⊢
  generalize notN x &&& z = q2 at *
  generalize x &&& y = q1 at *
  generalize notN x = nx at *
  clear hxa hxb hxc
  go_enter Try.func72, Try.ntmps72
  go_upto_region 1 with fail
  refine wp_quiet (by kernel_rfl) (by kernel_rfl) ?_
  repeat (any_goals (first | go_big_quiet_step (fail) | quiet_step (fail)))
  refine wpQuiet_nil ?_
  rintro wz ⟨q, hq⟩
  have hsz : Same w wz := by rw [hq]; exact more_same _ q
  clear hq hca hcb hcc hca1 hcb1 hcc1 hbla hblb hblc
  go_wp2
  go_ret
  exact ⟨rfl, hsz⟩
set_option maxHeartbeats 4000000 in
theorem Ite_any (Na : Int) (Aa : Option Addr) (Ca : Nat) (wsa : List Nat) (Nb : Int) (Ab : Option Addr) (Cb : Nat) (wsb : List Nat) (Nc : Int) (Ac : Option Addr) (Cc : Nat) (wsc : List Nat) (w : World) (ha : TbOk w ⟨Na, Aa, Ca, wsa⟩) (hb : TbOk w ⟨Nb, Ab, Cb, wsb⟩) (hc : TbOk w ⟨Nc, Ac, Cc, wsc⟩) :
    Calls Try.prog 33 #[.agg #[.int .i64 Na, .slice Aa wsa.length Ca], .agg #[.int .i64 Nb, .slice Ab wsb.length Cb], .agg #[.int .i64 Nc, .slice Ac wsc.length Cc]] w (RetA w Na (tab Na.toNat (iteF wsa wsb wsc)) (fmE (fm [⟨Na, Aa, Ca, wsa⟩, ⟨Nb, Ab, Cb, wsb⟩, ⟨Nc, Ac, Cc, wsc⟩]))) := by
  have hmf : ∀ (fn : Fn) (first cap : Array Value) (w : World), (Instr.makeFunc fn first cap).run Try.prog w = .ok (.func fn first cap) w := fun _ _ _ _ => rfl
  have Ha := Lib.hid ha
  have Hb := Lib.hid hb
  have Hc := Lib.hid hc
  clear ha hb hc
  cases hfr : fm [⟨Na, Aa, Ca, wsa⟩, ⟨Nb, Ab, Cb, wsb⟩, ⟨Nc, Ac, Cc, wsc⟩] with
  | false =>
    unfold RetA
    rw [show fmE false = 5 from rfl, show ansN Na 5 = 0 from rfl, show ansL (tab Na.toNat (iteF wsa wsb wsc)) 5 = [] from rfl]
    have HFM := Lib.hid hfr
    clear hfr hmf
    go_enter Try.func33, Try.ntmps33
    go_upto_region 1 with fail
    refine wp_world fun w1 hw1 => ?_
    have hs1 : Same w w1 := by rw [hw1]; exact ((((Frm.refl _ _).alloc _).alloc _).alloc _).alloc _
    have hBXa : Blk w1 (w.heap.size) 24 #[.int .i64 Na, .slice Aa wsa.length Ca] := by
      rw [hw1]
      have := ((((Blk.new w 24 #[.int .i64 Na, .slice Aa wsa.length Ca]).alloc (.cells #[.int .i64 Nb, .slice Ab wsb.length Cb] 24)).alloc (.cells #[.int .i64 Nc, .slice Ac wsc.length Cc] 24)).alloc (.cells #[.int .i64 0, .slice none 0 0] 24))
      simpa using this
    have hBXb : Blk w1 (w.heap.size + 1) 24 #[.int .i64 Nb, .slice Ab wsb.length Cb] := by
      rw [hw1]
      have := (((Blk.new (w.alloc (.cells #[.int .i64 Na, .slice Aa wsa.length Ca] 24)) 24 #[.int .i64 Nb, .slice Ab wsb.length Cb]).alloc (.cells #[.int .i64 Nc, .slice Ac wsc.length Cc] 24)).alloc (.cells #[.int .i64 0, .slice none 0 0] 24))
      simpa using this
    have hBXc : Blk w1 (w.heap.size + 1 + 1) 24 #[.int .i64 Nc, .slice Ac wsc.length Cc] := by
      rw [hw1]
      have := ((Blk.new ((w.alloc (.cells #[.int .i64 Na, .slice Aa wsa.length Ca] 24)).alloc (.cells #[.int .i64 Nb, .slice Ab wsb.length Cb] 24)) 24 #[.int .i64 Nc, .slice Ac wsc.length Cc]).alloc (.cells #[.int .i64 0, .slice none 0 0] 24))
      simpa using this
    have hBR : Blk w1 (w.heap.size + 1 + 1 + 1) 24 #[.int .i64 0, .slice none 0 0] := by
      rw [hw1]
      have := (Blk.new (((w.alloc (.cells #[.int .i64 Na, .slice Aa wsa.length Ca] 24)).alloc (.cells #[.int .i64 Nb, .slice Ab wsb.length Cb] 24)).alloc (.cells #[.int .i64 Nc, .slice Ac wsc.length Cc] 24)) 24 #[.int .i64 0, .slice none 0 0])
      simpa using this
    clear hw1
    obtain ⟨R, hR⟩ : ∃ b, w.heap.size + 1 + 1 + 1 = b := ⟨_, rfl⟩
    rw [hR] at hBR ⊢
    obtain ⟨Xc, hXc⟩ : ∃ b, w.heap.size + 1 + 1 = b := ⟨_, rfl⟩
    rw [hXc] at hBXc ⊢
    obtain ⟨Xb, hXb⟩ : ∃ b, w.heap.size + 1 = b := ⟨_, rfl⟩
    rw [hXb] at hBXb ⊢
    have leXb : w.heap.size ≤ Xb := by omega
    have leXc : w.heap.size ≤ Xc := by omega
    have leR : w.heap.size ≤ R := by omega
    have neXaXb : w.heap.size ≠ Xb := by omega
    have neXaXc : w.heap.size ≠ Xc := by omega
    have neXaR : w.heap.size ≠ R := by omega
    have neXbXc : Xb ≠ Xc := by omega
    have neXbR : Xb ≠ R := by omega
    have neXcR : Xc ≠ R := by omega
    clear hXb hXc hR
    have cXa0 : w1.cell? ⟨w.heap.size, 0, none⟩ = some (.int .i64 Na) := hBXa.cell 0
    have cXa1 : w1.cell? ⟨w.heap.size, 1, none⟩ = some (.slice Aa wsa.length Ca) := hBXa.cell 1
    have lXa := hBXa.lt
    have fXa0 := hBXa.free 0
    have fXa1 := hBXa.free 1
    have HBXa := Lib.hid hBXa
    have cXb0 : w1.cell? ⟨Xb, 0, none⟩ = some (.int .i64 Nb) := hBXb.cell 0
    have cXb1 : w1.cell? ⟨Xb, 1, none⟩ = some (.slice Ab wsb.length Cb) := hBXb.cell 1
    have lXb := hBXb.lt
    have fXb0 := hBXb.free 0
    have fXb1 := hBXb.free 1
    have HBXb := Lib.hid hBXb
    have cXc0 : w1.cell? ⟨Xc, 0, none⟩ = some (.int .i64 Nc) := hBXc.cell 0
    have cXc1 : w1.cell? ⟨Xc, 1, none⟩ = some (.slice Ac wsc.length Cc) := hBXc.cell 1
    have lXc := hBXc.lt
    have fXc0 := hBXc.free 0
    have fXc1 := hBXc.free 1
    have HBXc := Lib.hid hBXc
    have cR0 : w1.cell? ⟨R, 0, none⟩ = some (.int .i64 0) := hBR.cell 0
    have cR1 : w1.cell? ⟨R, 1, none⟩ = some (.slice none 0 0) := hBR.cell 1
    have lR := hBR.lt
    have fR0 := hBR.free 0
    have fR1 := hBR.free 1
    have HBR := Lib.hid hBR
    have HS1 := Lib.hid hs1
    clear hs1 hBXa hBXb hBXc hBR
    have HOKa := Lib.hid (Ha.out.same HS1.out)
    have HOKb := Lib.hid (Hb.out.same HS1.out)
    have HOKc := Lib.hid (Hc.out.same HS1.out)
    go_wp2_with (fail)
    refine call_world fun w2 hw2 => ?_
    have hs2 : Same w1 w2 := by rw [hw2]; exact (Frm.refl _ _).alloc _
    have hBL : Blk w2 w1.heap.size 24 #[.int .i64 Na, .slice Aa wsa.length Ca, .int .i64 Nb, .slice Ab wsb.length Cb, .int .i64 Nc, .slice Ac wsc.length Cc] := by rw [hw2]; exact Blk.new _ _ _
    have htbs : Tbs w2 w1.heap.size [⟨Na, Aa, Ca, wsa⟩, ⟨Nb, Ab, Cb, wsb⟩, ⟨Nc, Ac, Cc, wsc⟩] := by
      intro i t hi
      match i, hi with
      | 0, hi =>
        simp only [List.getElem?_cons_zero, Option.some.injEq] at hi
        subst hi
        exact ⟨hBL.lt, hBL.cell 0, hBL.cell 1⟩
      | 1, hi =>
        simp only [List.getElem?_cons_zero, List.getElem?_cons_succ, Option.some.injEq] at hi
        subst hi
        exact ⟨hBL.lt, hBL.cell 2, hBL.cell 3⟩
      | 2, hi =>
        simp only [List.getElem?_cons_zero, List.getElem?_cons_succ, Option.some.injEq] at hi
        subst hi
        exact ⟨hBL.lt, hBL.cell 4, hBL.cell 5⟩
      | i + 3, hi => simp at hi
    have hfc := form_any w1.heap.size 3 3 [⟨Na, Aa, Ca, wsa⟩, ⟨Nb, Ab, Cb, wsb⟩, ⟨Nc, Ac, Cc, wsc⟩] w2 rfl (by decide) htbs (fun t ht => by
      simp only [List.mem_cons, List.not_mem_nil, or_false] at ht
      rcases ht with rfl | rfl | rfl
      · exact (HOKa.out).same hs2
      · exact (HOKb.out).same hs2
      · exact (HOKc.out).same hs2)
    rw [HFM.out] at hfc
    refine hfc.mono ?_
    clear hfc htbs hBL hw2
    rintro e w3 ⟨rfl, hs3⟩
    have hs13 : Same w1 w3 := hs2.trans hs3 (fun _ _ h => h)
    clear hs2 hs3
    replace HBXa := Lib.hid (HBXa.out.frm hs13 id)
    replace cXa0 : w3.cell? ⟨w.heap.size, 0, none⟩ = some (.int .i64 Na) := HBXa.out.cell 0
    replace cXa1 : w3.cell? ⟨w.heap.size, 1, none⟩ = some (.slice Aa wsa.length Ca) := HBXa.out.cell 1
    replace lXa := HBXa.out.lt
    replace fXa0 := HBXa.out.free 0
    replace fXa1 := HBXa.out.free 1
    replace HBXb := Lib.hid (HBXb.out.frm hs13 id)
    replace cXb0 : w3.cell? ⟨Xb, 0, none⟩ = some (.int .i64 Nb) := HBXb.out.cell 0
    replace cXb1 : w3.cell? ⟨Xb, 1, none⟩ = some (.slice Ab wsb.length Cb) := HBXb.out.cell 1
    replace lXb := HBXb.out.lt
    replace fXb0 := HBXb.out.free 0
    replace fXb1 := HBXb.out.free 1
    replace HBXc := Lib.hid (HBXc.out.frm hs13 id)
    replace cXc0 : w3.cell? ⟨Xc, 0, none⟩ = some (.int .i64 Nc) := HBXc.out.cell 0
    replace cXc1 : w3.cell? ⟨Xc, 1, none⟩ = some (.slice Ac wsc.length Cc) := HBXc.out.cell 1
    replace lXc := HBXc.out.lt
    replace fXc0 := HBXc.out.free 0
    replace fXc1 := HBXc.out.free 1
    replace HBR := Lib.hid (HBR.out.frm hs13 id)
    replace cR0 : w3.cell? ⟨R, 0, none⟩ = some (.int .i64 0) := HBR.out.cell 0
    replace cR1 : w3.cell? ⟨R, 1, none⟩ = some (.slice none 0 0) := HBR.out.cell 1
    replace lR := HBR.out.lt
    replace fR0 := HBR.out.free 0
    replace fR1 := HBR.out.free 1
    replace HS1 := Lib.hid (HS1.out.trans hs13 (fun _ _ h => h))
    clear hs13
    go_wp2
    refine wp_post fun we hwe => ?_
    have hBE : Blk we R 24 #[.int .i64 0, .slice none 0 0] := by
      rw [hwe]
      have := (HBR.out.set 0 (.int .i64 0)).set 1 (.slice none 0 0)
      simpa using this
    have hSE : Same w we := by rw [hwe]; exact (HS1.out.setNew 0 _ leR).setNew 1 _ leR
    have hr0 : we.cell? ⟨R, 0, none⟩ = some (.int .i64 0) := hBE.cell 0
    have hr1 : we.cell? ⟨R, 1, none⟩ = some (.slice none 0 0) := hBE.cell 1
    clear hwe hBE
    refine bodyPost_ret (v := .tuple #[.agg #[.int .i64 0, .slice none 0 0], .int .i64 5]) (by simp [results, Try.results33, go_sem, hr0, hr1]) rfl ?_
    exact ⟨none, 0, rfl, NewT.nil hSE⟩
  | true =>
    obtain ⟨n, rfl, rfl, rfl, hfa, hfb, hfc⟩ := fm_three hfr
    unfold RetA
    rw [show fmE true = 0 from rfl, show ansN n 0 = n from rfl, show ansL (tab (n : Int).toNat (iteF wsa wsb wsc)) 0 = tab n (iteF wsa wsb wsc) from rfl]
    have HFM := Lib.hid hfr
    have hn := hfa.n16
    have hsa := Ha.out.small
    have hsb := Hb.out.small
    have hsc := Hc.out.small
    have HTB := Lib.hid (laid_tab (n := n) (g := (fun i => iteN (wsa.getD i 0) (wsb.getD i 0) (wsc.getD i 0))) (F := iteF wsa wsb wsc) fun k hk j hj _ => by
      obtain ⟨x, hx⟩ : ∃ x, wsa[k]? = some x := ⟨_, List.getElem?_eq_getElem (by rw [hfa.len]; exact hk)⟩
      obtain ⟨y, hy⟩ : ∃ y, wsb[k]? = some y := ⟨_, List.getElem?_eq_getElem (by rw [hfb.len]; exact hk)⟩
      obtain ⟨z, hz⟩ : ∃ z, wsc[k]? = some z := ⟨_, List.getElem?_eq_getElem (by rw [hfc.len]; exact hk)⟩
      rw [getD_of hx, getD_of hy, getD_of hz, iteN_bit (hsa.at1 hx) hj]
      unfold iteF
      rw [vb_word hx hj, vb_word hy hj, vb_word hz hj])
    have HLa := Lib.hid hfa.len
    have HLb := Lib.hid hfb.len
    have HLc := Lib.hid hfc.len
    have HSa := Lib.hid hsa
    have HSb := Lib.hid hsb
    have HSc := Lib.hid hsc
    clear hfr hfa hfb hfc hsa hsb hsc
    have hen : ∀ (args : Array Value) (w : World), (callFunc 72 args).run Try.prog w = .ok (.enter 72 args) w := enters_of Try.func72 (by kernel_rfl) rfl
    have HEN := Lib.hid hen
    clear hen
    go_enter Try.func33, Try.ntmps33
    go_upto_region 1 with fail
    refine wp_world fun w1 hw1 => ?_
    have hs1 : Same w w1 := by rw [hw1]; exact ((((Frm.refl _ _).alloc _).alloc _).alloc _).alloc _
    have hBXa : Blk w1 (w.heap.size) 24 #[.int .i64 n, .slice Aa wsa.length Ca] := by
      rw [hw1]
      have := ((((Blk.new w 24 #[.int .i64 n, .slice Aa wsa.length Ca]).alloc (.cells #[.int .i64 n, .slice Ab wsb.length Cb] 24)).alloc (.cells #[.int .i64 n, .slice Ac wsc.length Cc] 24)).alloc (.cells #[.int .i64 0, .slice none 0 0] 24))
      simpa using this
    have hBXb : Blk w1 (w.heap.size + 1) 24 #[.int .i64 n, .slice Ab wsb.length Cb] := by
      rw [hw1]
      have := (((Blk.new (w.alloc (.cells #[.int .i64 n, .slice Aa wsa.length Ca] 24)) 24 #[.int .i64 n, .slice Ab wsb.length Cb]).alloc (.cells #[.int .i64 n, .slice Ac wsc.length Cc] 24)).alloc (.cells #[.int .i64 0, .slice none 0 0] 24))
      simpa using this
    have hBXc : Blk w1 (w.heap.size + 1 + 1) 24 #[.int .i64 n, .slice Ac wsc.length Cc] := by
      rw [hw1]
      have := ((Blk.new ((w.alloc (.cells #[.int .i64 n, .slice Aa wsa.length Ca] 24)).alloc (.cells #[.int .i64 n, .slice Ab wsb.length Cb] 24)) 24 #[.int .i64 n, .slice Ac wsc.length Cc]).alloc (.cells #[.int .i64 0, .slice none 0 0] 24))
      simpa using this
    have hBR : Blk w1 (w.heap.size + 1 + 1 + 1) 24 #[.int .i64 0, .slice none 0 0] := by
      rw [hw1]
      have := (Blk.new (((w.alloc (.cells #[.int .i64 n, .slice Aa wsa.length Ca] 24)).alloc (.cells #[.int .i64 n, .slice Ab wsb.length Cb] 24)).alloc (.cells #[.int .i64 n, .slice Ac wsc.length Cc] 24)) 24 #[.int .i64 0, .slice none 0 0])
      simpa using this
    clear hw1
    obtain ⟨R, hR⟩ : ∃ b, w.heap.size + 1 + 1 + 1 = b := ⟨_, rfl⟩
    rw [hR] at hBR ⊢
    obtain ⟨Xc, hXc⟩ : ∃ b, w.heap.size + 1 + 1 = b := ⟨_, rfl⟩
    rw [hXc] at hBXc ⊢
    obtain ⟨Xb, hXb⟩ : ∃ b, w.heap.size + 1 = b := ⟨_, rfl⟩
    rw [hXb] at hBXb ⊢
    have leXb : w.heap.size ≤ Xb := by omega
    have leXc : w.heap.size ≤ Xc := by omega
    have leR : w.heap.size ≤ R := by omega
    have neXaXb : w.heap.size ≠ Xb := by omega
    have neXaXc : w.heap.size ≠ Xc := by omega
    have neXaR : w.heap.size ≠ R := by omega
    have neXbXc : Xb ≠ Xc := by omega
    have neXbR : Xb ≠ R := by omega
    have neXcR : Xc ≠ R := by omega
    clear hXb hXc hR
    have cXa0 : w1.cell? ⟨w.heap.size, 0, none⟩ = some (.int .i64 n) := hBXa.cell 0
    have cXa1 : w1.cell? ⟨w.heap.size, 1, none⟩ = some (.slice Aa wsa.length Ca) := hBXa.cell 1
    have lXa := hBXa.lt
    have fXa0 := hBXa.free 0
    have fXa1 := hBXa.free 1
    have HBXa := Lib.hid hBXa
    have cXb0 : w1.cell? ⟨Xb, 0, none⟩ = some (.int .i64 n) := hBXb.cell 0
    have cXb1 : w1.cell? ⟨Xb, 1, none⟩ = some (.slice Ab wsb.length Cb) := hBXb.cell 1
    have lXb := hBXb.lt
    have fXb0 := hBXb.free 0
    have fXb1 := hBXb.free 1
    have HBXb := Lib.hid hBXb
    have cXc0 : w1.cell? ⟨Xc, 0, none⟩ = some (.int .i64 n) := hBXc.cell 0
    have cXc1 : w1.cell? ⟨Xc, 1, none⟩ = some (.slice Ac wsc.length Cc) := hBXc.cell 1
    have lXc := hBXc.lt
    have fXc0 := hBXc.free 0
    have fXc1 := hBXc.free 1
    have HBXc := Lib.hid hBXc
    have cR0 : w1.cell? ⟨R, 0, none⟩ = some (.int .i64 0) := hBR.cell 0
    have cR1 : w1.cell? ⟨R, 1, none⟩ = some (.slice none 0 0) := hBR.cell 1
    have lR := hBR.lt
    have fR0 := hBR.free 0
    have fR1 := hBR.free 1
    have HBR := Lib.hid hBR
    have HS1 := Lib.hid hs1
    clear hs1 hBXa hBXb hBXc hBR
    have HOKa := Lib.hid (Ha.out.same HS1.out)
    have HOKb := Lib.hid (Hb.out.same HS1.out)
    have HOKc := Lib.hid (Hc.out.same HS1.out)
    go_wp2_with (fail)
    refine call_world fun w2 hw2 => ?_
    have hs2 : Same w1 w2 := by rw [hw2]; exact (Frm.refl _ _).alloc _
    have hBL : Blk w2 w1.heap.size 24 #[.int .i64 n, .slice Aa wsa.length Ca, .int .i64 n, .slice Ab wsb.length Cb, .int .i64 n, .slice Ac wsc.length Cc] := by rw [hw2]; exact Blk.new _ _ _
    have htbs : Tbs w2 w1.heap.size [⟨n, Aa, Ca, wsa⟩, ⟨n, Ab, Cb, wsb⟩, ⟨n, Ac, Cc, wsc⟩] := by
      intro i t hi
      match i, hi with
      | 0, hi =>
        simp only [List.getElem?_cons_zero, Option.some.injEq] at hi
        subst hi
        exact ⟨hBL.lt, hBL.cell 0, hBL.cell 1⟩
      | 1, hi =>
        simp only [List.getElem?_cons_zero, List.getElem?_cons_succ, Option.some.injEq] at hi
        subst hi
        exact ⟨hBL.lt, hBL.cell 2, hBL.cell 3⟩
      | 2, hi =>
        simp only [List.getElem?_cons_zero, List.getElem?_cons_succ, Option.some.injEq] at hi
        subst hi
        exact ⟨hBL.lt, hBL.cell 4, hBL.cell 5⟩
      | i + 3, hi => simp at hi
    have hfc := form_any w1.heap.size 3 3 [⟨n, Aa, Ca, wsa⟩, ⟨n, Ab, Cb, wsb⟩, ⟨n, Ac, Cc, wsc⟩] w2 rfl (by decide) htbs (fun t ht => by
      simp only [List.mem_cons, List.not_mem_nil, or_false] at ht
      rcases ht with rfl | rfl | rfl
      · exact (HOKa.out).same hs2
      · exact (HOKb.out).same hs2
      · exact (HOKc.out).same hs2)
    rw [HFM.out] at hfc
    refine hfc.mono ?_
    clear hfc htbs hBL hw2
    rintro e w3 ⟨rfl, hs3⟩
    have hs13 : Same w1 w3 := hs2.trans hs3 (fun _ _ h => h)
    clear hs2 hs3
    replace HBXa := Lib.hid (HBXa.out.frm hs13 id)
    replace cXa0 : w3.cell? ⟨w.heap.size, 0, none⟩ = some (.int .i64 n) := HBXa.out.cell 0
    replace cXa1 : w3.cell? ⟨w.heap.size, 1, none⟩ = some (.slice Aa wsa.length Ca) := HBXa.out.cell 1
    replace lXa := HBXa.out.lt
    replace fXa0 := HBXa.out.free 0
    replace fXa1 := HBXa.out.free 1
    replace HBXb := Lib.hid (HBXb.out.frm hs13 id)
    replace cXb0 : w3.cell? ⟨Xb, 0, none⟩ = some (.int .i64 n) := HBXb.out.cell 0
    replace cXb1 : w3.cell? ⟨Xb, 1, none⟩ = some (.slice Ab wsb.length Cb) := HBXb.out.cell 1
    replace lXb := HBXb.out.lt
    replace fXb0 := HBXb.out.free 0
    replace fXb1 := HBXb.out.free 1
    replace HBXc := Lib.hid (HBXc.out.frm hs13 id)
    replace cXc0 : w3.cell? ⟨Xc, 0, none⟩ = some (.int .i64 n) := HBXc.out.cell 0
    replace cXc1 : w3.cell? ⟨Xc, 1, none⟩ = some (.slice Ac wsc.length Cc) := HBXc.out.cell 1
    replace lXc := HBXc.out.lt
    replace fXc0 := HBXc.out.free 0
    replace fXc1 := HBXc.out.free 1
    replace HBR := Lib.hid (HBR.out.frm hs13 id)
    replace cR0 : w3.cell? ⟨R, 0, none⟩ = some (.int .i64 0) := HBR.out.cell 0
    replace cR1 : w3.cell? ⟨R, 1, none⟩ = some (.slice none 0 0) := HBR.out.cell 1
    replace lR := HBR.out.lt
    replace fR0 := HBR.out.free 0
    replace fR1 := HBR.out.free 1
    replace HS1 := Lib.hid (HS1.out.trans hs13 (fun _ _ h => h))
    clear hs13
    have htl : Tells w3 n 72 #[.pointer (some ⟨w.heap.size, 0, none⟩), .pointer (some ⟨Xb, 0, none⟩), .pointer (some ⟨Xc, 0, none⟩)] (fun i => iteN (wsa.getD i 0) (wsb.getD i 0) (wsc.getD i 0)) := fun i hi => ⟨iteN_lt (by have hil : i < wsa.length := (by rw [HLa.out]; exact hi); rw [List.getD_eq_getElem?_getD, List.getElem?_eq_getElem hil]; exact HSa.out _ (List.getElem_mem hil)), fun w' hs' => by
      refine (ite1_any i w.heap.size Xb Xc w' Aa Ca wsa (by rw [HLa.out]; exact hi) (Sl.same (Sl.same Ha.out.wl HS1.out) hs') HSa.out ((hs'.cell (p := ⟨w.heap.size, 1, none⟩) lXa id).trans cXa1) Ab Cb wsb (by rw [HLb.out]; exact hi) (Sl.same (Sl.same Hb.out.wl HS1.out) hs') HSb.out ((hs'.cell (p := ⟨Xb, 1, none⟩) lXb id).trans cXb1) Ac Cc wsc (by rw [HLc.out]; exact hi) (Sl.same (Sl.same Hc.out.wl HS1.out) hs') HSc.out ((hs'.cell (p := ⟨Xc, 1, none⟩) lXc id).trans cXc1)).mono ?_
      exact fun e w'' h => h⟩
    have HTL := Lib.hid htl
    clear htl
    go_wp2_with (fail)
    refine (laid_any n 72 #[.pointer (some ⟨w.heap.size, 0, none⟩), .pointer (some ⟨Xb, 0, none⟩), .pointer (some ⟨Xc, 0, none⟩)] (fun i => iteN (wsa.getD i 0) (wsb.getD i 0) (wsc.getD i 0)) w3 hn HEN.out HTL.out).mono ?_
    rintro e w4 ⟨Aq, Cq, rfl, hNT⟩
    rw [HTB.out] at hNT ⊢
    have hoq := hNT.1
    have hfq := hNT.2.1
    have hsq := hNT.2.2
    have hRq : ∀ a, Aq = some a → a.block ≠ R := fun a ha h => by
      have := hfq a.block ⟨a, ha, rfl⟩
      omega
    have HBRq := Lib.hid (HBR.out.frm hsq id)
    have HSq := Lib.hid (HS1.out.trans hsq (fun _ _ h => h))
    have hfq' : Fresh w.heap.size Aq := fun b hb => by have := hfq b hb; have := HS1.out.size; omega
    have HOQ := Lib.hid hoq
    have HFQ := Lib.hid hfq'
    have hcR0 : w4.cell? ⟨R, 0, none⟩ = some (.int .i64 0) := HBRq.out.cell 0
    have hcR1 : w4.cell? ⟨R, 1, none⟩ = some (.slice none 0 0) := HBRq.out.cell 1
    have hfR0 := HBRq.out.free 0
    have hfR1 := HBRq.out.free 1
    have hlR := HBRq.out.lt
    clear hNT hoq hfq hsq hfq'
    go_wp2
    refine wp_post fun we hwe => ?_
    have hBE : Blk we R 24 #[.int .i64 n, .slice Aq (tab n (iteF wsa wsb wsc)).length Cq] := by
      rw [hwe]
      have := (HBRq.out.set 0 (.int .i64 n)).set 1 (.slice Aq (tab n (iteF wsa wsb wsc)).length Cq)
      simpa using this
    have hSE : Same w we := by rw [hwe]; exact (HSq.out.setNew 0 _ leR).setNew 1 _ leR
    have hOE : OwnW we Aq (tab n (iteF wsa wsb wsc)).length Cq (tab n (iteF wsa wsb wsc)) := by
      rw [hwe]
      exact (Own.far (p := ⟨R, 0, none⟩) HOQ.out hRq _).far (p := ⟨R, 1, none⟩) hRq _
    have hr0 : we.cell? ⟨R, 0, none⟩ = some (.int .i64 n) := hBE.cell 0
    have hr1 : we.cell? ⟨R, 1, none⟩ = some (.slice Aq (tab n (iteF wsa wsb wsc)).length Cq) := hBE.cell 1
    clear hwe hBE
    refine bodyPost_ret (v := .tuple #[.agg #[.int .i64 n, .slice Aq (tab n (iteF wsa wsb wsc)).length Cq], .int .i64 0]) (by simp [results, Try.results33, go_sem, hr0, hr1]) rfl ?_
    exact ⟨Aq, Cq, rfl, hOE, HFQ.out, hSE⟩
end Go.Proofs.Ytlggmoghgoeiiaa
