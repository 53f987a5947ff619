/- Contracts and plain laws, put together in one file. No condition. -/
import Derived.Test.YtaakjecnompogaaJWholeTruth2
import Derived.Test.YtaakjecnompogaaProg
import Derived.KernelRfl


/- Truth tables: Ite of the program. -/
namespace Go.Proofs.Ytaakjecnompogaa
open Go.RowKit Go.Tk

def iteN (x y z : Nat) : Nat := (x &&& y) ||| (notN x &&& z)
theorem iteN_lt {x y z : Nat} (hx : x < 18446744073709551616) : iteN x y z < 18446744073709551616 :=
  Nat.or_lt_two_pow (n := 64) (Nat.lt_of_le_of_lt Nat.and_le_left hx) (Nat.lt_of_le_of_lt Nat.and_le_left (notN_lt x))
theorem iteN_bit {x y z j : Nat} (hx : x < 18446744073709551616) (hj : j < 64) : (iteN x y z).testBit j = if x.testBit j then y.testBit j else z.testBit j := by
  unfold iteN
  rw [Nat.testBit_or, Nat.testBit_and, Nat.testBit_and, notN_bit hx hj]
  cases x.testBit j <;> simp
def iteF (wsa wsb wsc : List Nat) : Nat → Bool := fun i => if vb wsa i then vb wsb i else vb wsc i
theorem fm_three {Na Nb Nc : Int} {Aa Ab Ac : Option Addr} {Ca Cb Cc : Nat} {wsa wsb wsc : List Nat} (h : fm [⟨Na, Aa, Ca, wsa⟩, ⟨Nb, Ab, Cb, wsb⟩, ⟨Nc, Ac, Cc, wsc⟩] = true) : ∃ n : Nat, Na = n ∧ Nb = n ∧ Nc = n ∧ FormN n wsa ∧ FormN n wsb ∧ FormN n wsc := by
  simp [fm, Tb.frm] at h
  obtain ⟨h1, ⟨h2, h3⟩, h4, h5⟩ := h
  obtain ⟨n, rfl, ha⟩ := frm_true h1
  rw [h3] at h2
  rw [h5] at h4
  exact ⟨n, rfl, h3, h5, ha, frm_nat.1 h2, frm_nat.1 h4⟩
set_option maxRecDepth 100000 in
set_option maxHeartbeats 2000000 in
theorem ite1_any (i Ba Bb Bc : Nat) (w : World) (Aa : Option Addr) (Ca : Nat) (wsa : List Nat) (hia : i < wsa.length) (ha : WL w Aa wsa.length wsa) (hba : Small wsa) (hca1 : w.cell? ⟨Ba, 1, none⟩ = some (.slice Aa wsa.length Ca)) (Ab : Option Addr) (Cb : Nat) (wsb : List Nat) (hib : i < wsb.length) (hb : WL w Ab wsb.length wsb) (hbb : Small wsb) (hcb1 : w.cell? ⟨Bb, 1, none⟩ = some (.slice Ab wsb.length Cb)) (Ac : Option Addr) (Cc : Nat) (wsc : List Nat) (hic : i < wsc.length) (hc : WL w Ac wsc.length wsc) (hbc : Small wsc) (hcc1 : w.cell? ⟨Bc, 1, none⟩ = some (.slice Ac wsc.length Cc)) :
    Calls Try.prog 35 #[.int .i64 i, .pointer (some ⟨Ba, 0, none⟩), .pointer (some ⟨Bb, 0, none⟩), .pointer (some ⟨Bc, 0, none⟩)] w fun e w' => e = .returned (.int .u64 (iteN (wsa.getD i 0) (wsb.getD i 0) (wsc.getD i 0) : Nat)) ∧ Same w w' := by
  obtain ⟨x, hxa⟩ : ∃ x, wsa[i]? = some x := ⟨_, List.getElem?_eq_getElem hia⟩
  obtain ⟨ba, offa, rfl, hbla, hca⟩ := ha.at1 hxa
  have hbx := hba.at1 hxa
  have hi1a : (i : Int) < wsa.length := by omega
  have hlBa : Ba < w.heap.size := World.block_lt_of_cell? w _ hca1
  rw [show wsa.getD i 0 = x by rw [List.getD_eq_getElem?_getD, hxa]; rfl]
  obtain ⟨y, hxb⟩ : ∃ x, wsb[i]? = some x := ⟨_, List.getElem?_eq_getElem hib⟩
  obtain ⟨bb, offb, rfl, hblb, hcb⟩ := hb.at1 hxb
  have hby := hbb.at1 hxb
  have hi1b : (i : Int) < wsb.length := by omega
  have hlBb : Bb < w.heap.size := World.block_lt_of_cell? w _ hcb1
  rw [show wsb.getD i 0 = y by rw [List.getD_eq_getElem?_getD, hxb]; rfl]
  obtain ⟨z, hxc⟩ : ∃ x, wsc[i]? = some x := ⟨_, List.getElem?_eq_getElem hic⟩
  obtain ⟨bc, offc, rfl, hblc, hcc⟩ := hc.at1 hxc
  have hbz := hbc.at1 hxc
  have hi1c : (i : Int) < wsc.length := by omega
  have hlBc : Bc < w.heap.size := World.block_lt_of_cell? w _ hcc1
  rw [show wsc.getD i 0 = z by rw [List.getD_eq_getElem?_getD, hxc]; rfl]
  have hi0 : (0 : Int) ≤ i := by omega
  have hxorx := xor_not hbx
  have hsg : ¬ IntKind.u64.signed = true := by decide
  have hlx := notN_lt x
  have ha1 := u64_and_nat x y hbx hby
  have ha2 := u64_and_nat (notN x) z hlx hbz
  have ho := u64_or_nat (x &&& y) (notN x &&& z) (Nat.lt_of_le_of_lt Nat.and_le_left hbx) (Nat.lt_of_le_of_lt Nat.and_le_left hlx)
  rw [show (x &&& y) ||| (notN x &&& z) = iteN x y z from rfl] at ho
  generalize iteN x y z = v at ho ⊢
  generalize notN x &&& z = q2 at *
  generalize x &&& y = q1 at *
  generalize notN x = nx at *
  clear hxa hxb hxc
  go_enter Try.func35, Try.ntmps35
  go_upto_region 1 with fail
  refine wp_quiet (by kernel_rfl) (by kernel_rfl) ?_
  repeat (any_goals (first | go_big_quiet_step (fail) | quiet_step (fail)))
  refine wpQuiet_nil ?_
  rintro wz ⟨q, hq⟩
  have hsz : Same w wz := by rw [hq]; exact more_same _ q
  clear hq hca hcb hcc hca1 hcb1 hcc1 hbla hblb hblc
  go_wp2
  go_ret
  exact ⟨rfl, hsz⟩
set_option maxHeartbeats 4000000 in
theorem Ite_any (Na : Int) (Aa : Option Addr) (Ca : Nat) (wsa : List Nat) (Nb : Int) (Ab : Option Addr) (Cb : Nat) (wsb : List Nat) (Nc : Int) (Ac : Option Addr) (Cc : Nat) (wsc : List Nat) (w : World) (ha : TbOk w ⟨Na, Aa, Ca, wsa⟩) (hb : TbOk w ⟨Nb, Ab, Cb, wsb⟩) (hc : TbOk w ⟨Nc, Ac, Cc, wsc⟩) :
    Calls Try.prog 24 #[.agg #[.int .i64 Na, .slice Aa wsa.length Ca], .agg #[.int .i64 Nb, .slice Ab wsb.length Cb], .agg #[.int .i64 Nc, .slice Ac wsc.length Cc]] w (RetA w Na (tab Na.toNat (iteF wsa wsb wsc)) (fmE (fm [⟨Na, Aa, Ca, wsa⟩, ⟨Nb, Ab, Cb, wsb⟩, ⟨Nc, Ac, Cc, wsc⟩]))) := by
  have hmf : ∀ (fn : Fn) (first cap : Array Value) (w : World), (Instr.makeFunc fn first cap).run Try.prog w = .ok (.func fn first cap) w := fun _ _ _ _ => rfl
  have Ha := Lib.hid ha
  have Hb := Lib.hid hb
  have Hc := Lib.hid hc
  clear ha hb hc
  cases hfr : fm [⟨Na, Aa, Ca, wsa⟩, ⟨Nb, Ab, Cb, wsb⟩, ⟨Nc, Ac, Cc, wsc⟩] with
  | false =>
    unfold RetA
    rw [show fmE false = 5 from rfl, show ansN Na 5 = 0 from rfl, show ansL (tab Na.toNat (iteF wsa wsb wsc)) 5 = [] from rfl]
    have HFM := Lib.hid hfr
    clear hfr hmf
    go_enter Try.func24, Try.ntmps24
    go_upto_region 1 with fail
    refine wp_world fun w1 hw1 => ?_
    have hs1 : Same w w1 := by rw [hw1]; exact ((((Frm.refl _ _).alloc _).alloc _).alloc _).alloc _
    have hBXa : Blk w1 (w.heap.size) 26 #[.int .i64 Na, .slice Aa wsa.length Ca] := by
      rw [hw1]
      have := ((((Blk.new w 26 #[.int .i64 Na, .slice Aa wsa.length Ca]).alloc (.cells #[.int .i64 Nb, .slice Ab wsb.length Cb] 26)).alloc (.cells #[.int .i64 Nc, .slice Ac wsc.length Cc] 26)).alloc (.cells #[.int .i64 0, .slice none 0 0] 26))
      simpa using this
    have hBXb : Blk w1 (w.heap.size + 1) 26 #[.int .i64 Nb, .slice Ab wsb.length Cb] := by
      rw [hw1]
      have := (((Blk.new (w.alloc (.cells #[.int .i64 Na, .slice Aa wsa.length Ca] 26)) 26 #[.int .i64 Nb, .slice Ab wsb.length Cb]).alloc (.cells #[.int .i64 Nc, .slice Ac wsc.length Cc] 26)).alloc (.cells #[.int .i64 0, .slice none 0 0] 26))
      simpa using this
    have hBXc : Blk w1 (w.heap.size + 1 + 1) 26 #[.int .i64 Nc, .slice Ac wsc.length Cc] := by
      rw [hw1]
      have := ((Blk.new ((w.alloc (.cells #[.int .i64 Na, .slice Aa wsa.length Ca] 26)).alloc (.cells #[.int .i64 Nb, .slice Ab wsb.length Cb] 26)) 26 #[.int .i64 Nc, .slice Ac wsc.length Cc]).alloc (.cells #[.int .i64 0, .slice none 0 0] 26))
      simpa using this
    have hBR : Blk w1 (w.heap.size + 1 + 1 + 1) 26 #[.int .i64 0, .slice none 0 0] := by
      rw [hw1]
      have := (Blk.new (((w.alloc (.cells #[.int .i64 Na, .slice Aa wsa.length Ca] 26)).alloc (.cells #[.int .i64 Nb, .slice Ab wsb.length Cb] 26)).alloc (.cells #[.int .i64 Nc, .slice Ac wsc.length Cc] 26)) 26 #[.int .i64 0, .slice none 0 0])
      simpa using this
    clear hw1
    obtain ⟨R, hR⟩ : ∃ b, w.heap.size + 1 + 1 + 1 = b := ⟨_, rfl⟩
    rw [hR] at hBR ⊢
    obtain ⟨Xc, hXc⟩ : ∃ b, w.heap.size + 1 + 1 = b := ⟨_, rfl⟩
    rw [hXc] at hBXc ⊢
    obtain ⟨Xb, hXb⟩ : ∃ b, w.heap.size + 1 = b := ⟨_, rfl⟩
    rw [hXb] at hBXb ⊢
    have leXb : w.heap.size ≤ Xb := by omega
    have leXc : w.heap.size ≤ Xc := by omega
    have leR : w.heap.size ≤ R := by omega
    have neXaXb : w.heap.size ≠ Xb := by omega
    have neXaXc : w.heap.size ≠ Xc := by omega
    have neXaR : w.heap.size ≠ R := by omega
    have neXbXc : Xb ≠ Xc := by omega
    have neXbR : Xb ≠ R := by omega
    have neXcR : Xc ≠ R := by omega
    clear hXb hXc hR
    have cXa0 : w1.cell? ⟨w.heap.size, 0, none⟩ = some (.int .i64 Na) := hBXa.cell 0
    have cXa1 : w1.cell? ⟨w.heap.size, 1, none⟩ = some (.slice Aa wsa.length Ca) := hBXa.cell 1
    have lXa := hBXa.lt
    have fXa0 := hBXa.free 0
    have fXa1 := hBXa.free 1
    have HBXa := Lib.hid hBXa
    have cXb0 : w1.cell? ⟨Xb, 0, none⟩ = some (.int .i64 Nb) := hBXb.cell 0
    have cXb1 : w1.cell? ⟨Xb, 1, none⟩ = some (.slice Ab wsb.length Cb) := hBXb.cell 1
    have lXb := hBXb.lt
    have fXb0 := hBXb.free 0
    have fXb1 := hBXb.free 1
    have HBXb := Lib.hid hBXb
    have cXc0 : w1.cell? ⟨Xc, 0, none⟩ = some (.int .i64 Nc) := hBXc.cell 0
    have cXc1 : w1.cell? ⟨Xc, 1, none⟩ = some (.slice Ac wsc.length Cc) := hBXc.cell 1
    have lXc := hBXc.lt
    have fXc0 := hBXc.free 0
    have fXc1 := hBXc.free 1
    have HBXc := Lib.hid hBXc
    have cR0 : w1.cell? ⟨R, 0, none⟩ = some (.int .i64 0) := hBR.cell 0
    have cR1 : w1.cell? ⟨R, 1, none⟩ = some (.slice none 0 0) := hBR.cell 1
    have lR := hBR.lt
    have fR0 := hBR.free 0
    have fR1 := hBR.free 1
    have HBR := Lib.hid hBR
    have HS1 := Lib.hid hs1
    clear hs1 hBXa hBXb hBXc hBR
    have HOKa := Lib.hid (Ha.out.same HS1.out)
    have HOKb := Lib.hid (Hb.out.same HS1.out)
    have HOKc := Lib.hid (Hc.out.same HS1.out)
    go_wp2_with (fail)
    refine call_world fun w2 hw2 => ?_
    have hs2 : Same w1 w2 := by rw [hw2]; exact (Frm.refl _ _).alloc _
    have hBL : Blk w2 w1.heap.size 26 #[.int .i64 Na, .slice Aa wsa.length Ca, .int .i64 Nb, .slice Ab wsb.length Cb, .int .i64 Nc, .slice Ac wsc.length Cc] := by rw [hw2]; exact Blk.new _ _ _
    have htbs : Tbs w2 w1.heap.size [⟨Na, Aa, Ca, wsa⟩, ⟨Nb, Ab, Cb, wsb⟩, ⟨Nc, Ac, Cc, wsc⟩] := by
      intro i t hi
      match i, hi with
      | 0, hi =>
        simp only [List.getElem?_cons_zero, Option.some.injEq] at hi
        subst hi
        exact ⟨hBL.lt, hBL.cell 0, hBL.cell 1⟩
      | 1, hi =>
        simp only [List.getElem?_cons_zero, List.getElem?_cons_succ, Option.some.injEq] at hi
        subst hi
        exact ⟨hBL.lt, hBL.cell 2, hBL.cell 3⟩
      | 2, hi =>
        simp only [List.getElem?_cons_zero, List.getElem?_cons_succ, Option.some.injEq] at hi
        subst hi
        exact ⟨hBL.lt, hBL.cell 4, hBL.cell 5⟩
      | i + 3, hi => simp at hi
    have hfc := form_any w1.heap.size 3 3 [⟨Na, Aa, Ca, wsa⟩, ⟨Nb, Ab, Cb, wsb⟩, ⟨Nc, Ac, Cc, wsc⟩] w2 rfl (by decide) htbs (fun t ht => by
      simp only [List.mem_cons, List.not_mem_nil, or_false] at ht
      rcases ht with rfl | rfl | rfl
      · exact (HOKa.out).same hs2
      · exact (HOKb.out).same hs2
      · exact (HOKc.out).same hs2)
    rw [HFM.out] at hfc
    refine hfc.mono ?_
    clear hfc htbs hBL hw2
    rintro e w3 ⟨rfl, hs3⟩
    have hs13 : Same w1 w3 := hs2.trans hs3 (fun _ _ h => h)
    clear hs2 hs3
    replace HBXa := Lib.hid (HBXa.out.frm hs13 id)
    replace cXa0 : w3.cell? ⟨w.heap.size, 0, none⟩ = some (.int .i64 Na) := HBXa.out.cell 0
    replace cXa1 : w3.cell? ⟨w.heap.size, 1, none⟩ = some (.slice Aa wsa.length Ca) := HBXa.out.cell 1
    replace lXa := HBXa.out.lt
    replace fXa0 := HBXa.out.free 0
    replace fXa1 := HBXa.out.free 1
    replace HBXb := Lib.hid (HBXb.out.frm hs13 id)
    replace cXb0 : w3.cell? ⟨Xb, 0, none⟩ = some (.int .i64 Nb) := HBXb.out.cell 0
    replace cXb1 : w3.cell? ⟨Xb, 1, none⟩ = some (.slice Ab wsb.length Cb) := HBXb.out.cell 1
    replace lXb := HBXb.out.lt
    replace fXb0 := HBXb.out.free 0
    replace fXb1 := HBXb.out.free 1
    replace HBXc := Lib.hid (HBXc.out.frm hs13 id)
    replace cXc0 : w3.cell? ⟨Xc, 0, none⟩ = some (.int .i64 Nc) := HBXc.out.cell 0
    replace cXc1 : w3.cell? ⟨Xc, 1, none⟩ = some (.slice Ac wsc.length Cc) := HBXc.out.cell 1
    replace lXc := HBXc.out.lt
    replace fXc0 := HBXc.out.free 0
    replace fXc1 := HBXc.out.free 1
    replace HBR := Lib.hid (HBR.out.frm hs13 id)
    replace cR0 : w3.cell? ⟨R, 0, none⟩ = some (.int .i64 0) := HBR.out.cell 0
    replace cR1 : w3.cell? ⟨R, 1, none⟩ = some (.slice none 0 0) := HBR.out.cell 1
    replace lR := HBR.out.lt
    replace fR0 := HBR.out.free 0
    replace fR1 := HBR.out.free 1
    replace HS1 := Lib.hid (HS1.out.trans hs13 (fun _ _ h => h))
    clear hs13
    go_wp2
    refine wp_post fun we hwe => ?_
    have hBE : Blk we R 26 #[.int .i64 0, .slice none 0 0] := by
      rw [hwe]
      have := (HBR.out.set 0 (.int .i64 0)).set 1 (.slice none 0 0)
      simpa using this
    have hSE : Same w we := by rw [hwe]; exact (HS1.out.setNew 0 _ leR).setNew 1 _ leR
    have hr0 : we.cell? ⟨R, 0, none⟩ = some (.int .i64 0) := hBE.cell 0
    have hr1 : we.cell? ⟨R, 1, none⟩ = some (.slice none 0 0) := hBE.cell 1
    clear hwe hBE
    refine bodyPost_ret (v := .tuple #[.agg #[.int .i64 0, .slice none 0 0], .int .i64 5]) (by simp [results, Try.results24, go_sem, hr0, hr1]) rfl ?_
    exact ⟨none, 0, rfl, NewT.nil hSE⟩
  | true =>
    obtain ⟨n, rfl, rfl, rfl, hfa, hfb, hfc⟩ := fm_three hfr
    unfold RetA
    rw [show fmE true = 0 from rfl, show ansN n 0 = n from rfl, show ansL (tab (n : Int).toNat (iteF wsa wsb wsc)) 0 = tab n (iteF wsa wsb wsc) from rfl]
    have HFM := Lib.hid hfr
    have hn := hfa.n16
    have hsa := Ha.out.small
    have hsb := Hb.out.small
    have hsc := Hc.out.small
    have HTB := Lib.hid (laid_tab (n := n) (g := (fun i => iteN (wsa.getD i 0) (wsb.getD i 0) (wsc.getD i 0))) (F := iteF wsa wsb wsc) fun k hk j hj _ => by
      obtain ⟨x, hx⟩ : ∃ x, wsa[k]? = some x := ⟨_, List.getElem?_eq_getElem (by rw [hfa.len]; exact hk)⟩
      obtain ⟨y, hy⟩ : ∃ y, wsb[k]? = some y := ⟨_, List.getElem?_eq_getElem (by rw [hfb.len]; exact hk)⟩
      obtain ⟨z, hz⟩ : ∃ z, wsc[k]? = some z := ⟨_, List.getElem?_eq_getElem (by rw [hfc.len]; exact hk)⟩
      rw [getD_of hx, getD_of hy, getD_of hz, iteN_bit (hsa.at1 hx) hj]
      unfold iteF
      rw [vb_word hx hj, vb_word hy hj, vb_word hz hj])
    have HLa := Lib.hid hfa.len
    have HLb := Lib.hid hfb.len
    have HLc := Lib.hid hfc.len
    have HSa := Lib.hid hsa
    have HSb := Lib.hid hsb
    have HSc := Lib.hid hsc
    clear hfr hfa hfb hfc hsa hsb hsc
    have hen : ∀ (args : Array Value) (w : World), (callFunc 35 args).run Try.prog w = .ok (.enter 35 args) w := enters_of Try.func35 (by kernel_rfl) rfl
    have HEN := Lib.hid hen
    clear hen
    go_enter Try.func24, Try.ntmps24
    go_upto_region 1 with fail
    refine wp_world fun w1 hw1 => ?_
    have hs1 : Same w w1 := by rw [hw1]; exact ((((Frm.refl _ _).alloc _).alloc _).alloc _).alloc _
    have hBXa : Blk w1 (w.heap.size) 26 #[.int .i64 n, .slice Aa wsa.length Ca] := by
      rw [hw1]
      have := ((((Blk.new w 26 #[.int .i64 n, .slice Aa wsa.length Ca]).alloc (.cells #[.int .i64 n, .slice Ab wsb.length Cb] 26)).alloc (.cells #[.int .i64 n, .slice Ac wsc.length Cc] 26)).alloc (.cells #[.int .i64 0, .slice none 0 0] 26))
      simpa using this
    have hBXb : Blk w1 (w.heap.size + 1) 26 #[.int .i64 n, .slice Ab wsb.length Cb] := by
      rw [hw1]
      have := (((Blk.new (w.alloc (.cells #[.int .i64 n, .slice Aa wsa.length Ca] 26)) 26 #[.int .i64 n, .slice Ab wsb.length Cb]).alloc (.cells #[.int .i64 n, .slice Ac wsc.length Cc] 26)).alloc (.cells #[.int .i64 0, .slice none 0 0] 26))
      simpa using this
    have hBXc : Blk w1 (w.heap.size + 1 + 1) 26 #[.int .i64 n, .slice Ac wsc.length Cc] := by
      rw [hw1]
      have := ((Blk.new ((w.alloc (.cells #[.int .i64 n, .slice Aa wsa.length Ca] 26)).alloc (.cells #[.int .i64 n, .slice Ab wsb.length Cb] 26)) 26 #[.int .i64 n, .slice Ac wsc.length Cc]).alloc (.cells #[.int .i64 0, .slice none 0 0] 26))
      simpa using this
    have hBR : Blk w1 (w.heap.size + 1 + 1 + 1) 26 #[.int .i64 0, .slice none 0 0] := by
      rw [hw1]
      have := (Blk.new (((w.alloc (.cells #[.int .i64 n, .slice Aa wsa.length Ca] 26)).alloc (.cells #[.int .i64 n, .slice Ab wsb.length Cb] 26)).alloc (.cells #[.int .i64 n, .slice Ac wsc.length Cc] 26)) 26 #[.int .i64 0, .slice none 0 0])
      simpa using this
    clear hw1
    obtain ⟨R, hR⟩ : ∃ b, w.heap.size + 1 + 1 + 1 = b := ⟨_, rfl⟩
    rw [hR] at hBR ⊢
    obtain ⟨Xc, hXc⟩ : ∃ b, w.heap.size + 1 + 1 = b := ⟨_, rfl⟩
    rw [hXc] at hBXc ⊢
    obtain ⟨Xb, hXb⟩ : ∃ b, w.heap.size + 1 = b := ⟨_, rfl⟩
    rw [hXb] at hBXb ⊢
    have leXb : w.heap.size ≤ Xb := by omega
    have leXc : w.heap.size ≤ Xc := by omega
    have leR : w.heap.size ≤ R := by omega
    have neXaXb : w.heap.size ≠ Xb := by omega
    have neXaXc : w.heap.size ≠ Xc := by omega
    have neXaR : w.heap.size ≠ R := by omega
    have neXbXc : Xb ≠ Xc := by omega
    have neXbR : Xb ≠ R := by omega
    have neXcR : Xc ≠ R := by omega
    clear hXb hXc hR
    have cXa0 : w1.cell? ⟨w.heap.size, 0, none⟩ = some (.int .i64 n) := hBXa.cell 0
    have cXa1 : w1.cell? ⟨w.heap.size, 1, none⟩ = some (.slice Aa wsa.length Ca) := hBXa.cell 1
    have lXa := hBXa.lt
    have fXa0 := hBXa.free 0
    have fXa1 := hBXa.free 1
    have HBXa := Lib.hid hBXa
    have cXb0 : w1.cell? ⟨Xb, 0, none⟩ = some (.int .i64 n) := hBXb.cell 0
    have cXb1 : w1.cell? ⟨Xb, 1, none⟩ = some (.slice Ab wsb.length Cb) := hBXb.cell 1
    have lXb := hBXb.lt
    have fXb0 := hBXb.free 0
    have fXb1 := hBXb.free 1
    have HBXb := Lib.hid hBXb
    have cXc0 : w1.cell? ⟨Xc, 0, none⟩ = some (.int .i64 n) := hBXc.cell 0
    have cXc1 : w1.cell? ⟨Xc, 1, none⟩ = some (.slice Ac wsc.length Cc) := hBXc.cell 1
    have lXc := hBXc.lt
    have fXc0 := hBXc.free 0
    have fXc1 := hBXc.free 1
    have HBXc := Lib.hid hBXc
    have cR0 : w1.cell? ⟨R, 0, none⟩ = some (.int .i64 0) := hBR.cell 0
    have cR1 : w1.cell? ⟨R, 1, none⟩ = some (.slice none 0 0) := hBR.cell 1
    have lR := hBR.lt
    have fR0 := hBR.free 0
    have fR1 := hBR.free 1
    have HBR := Lib.hid hBR
    have HS1 := Lib.hid hs1
    clear hs1 hBXa hBXb hBXc hBR
    have HOKa := Lib.hid (Ha.out.same HS1.out)
    have HOKb := Lib.hid (Hb.out.same HS1.out)
    have HOKc := Lib.hid (Hc.out.same HS1.out)
    go_wp2_with (fail)
    refine call_world fun w2 hw2 => ?_
    have hs2 : Same w1 w2 := by rw [hw2]; exact (Frm.refl _ _).alloc _
    have hBL : Blk w2 w1.heap.size 26 #[.int .i64 n, .slice Aa wsa.length Ca, .int .i64 n, .slice Ab wsb.length Cb, .int .i64 n, .slice Ac wsc.length Cc] := by rw [hw2]; exact Blk.new _ _ _
    have htbs : Tbs w2 w1.heap.size [⟨n, Aa, Ca, wsa⟩, ⟨n, Ab, Cb, wsb⟩, ⟨n, Ac, Cc, wsc⟩] := by
      intro i t hi
      match i, hi with
      | 0, hi =>
        simp only [List.getElem?_cons_zero, Option.some.injEq] at hi
        subst hi
        exact ⟨hBL.lt, hBL.cell 0, hBL.cell 1⟩
      | 1, hi =>
        simp only [List.getElem?_cons_zero, List.getElem?_cons_succ, Option.some.injEq] at hi
        subst hi
        exact ⟨hBL.lt, hBL.cell 2, hBL.cell 3⟩
      | 2, hi =>
        simp only [List.getElem?_cons_zero, List.getElem?_cons_succ, Option.some.injEq] at hi
        subst hi
        exact ⟨hBL.lt, hBL.cell 4, hBL.cell 5⟩
      | i + 3, hi => simp at hi
    have hfc := form_any w1.heap.size 3 3 [⟨n, Aa, Ca, wsa⟩, ⟨n, Ab, Cb, wsb⟩, ⟨n, Ac, Cc, wsc⟩] w2 rfl (by decide) htbs (fun t ht => by
      simp only [List.mem_cons, List.not_mem_nil, or_false] at ht
      rcases ht with rfl | rfl | rfl
      · exact (HOKa.out).same hs2
      · exact (HOKb.out).same hs2
      · exact (HOKc.out).same hs2)
    rw [HFM.out] at hfc
    refine hfc.mono ?_
    clear hfc htbs hBL hw2
    rintro e w3 ⟨rfl, hs3⟩
    have hs13 : Same w1 w3 := hs2.trans hs3 (fun _ _ h => h)
    clear hs2 hs3
    replace HBXa := Lib.hid (HBXa.out.frm hs13 id)
    replace cXa0 : w3.cell? ⟨w.heap.size, 0, none⟩ = some (.int .i64 n) := HBXa.out.cell 0
    replace cXa1 : w3.cell? ⟨w.heap.size, 1, none⟩ = some (.slice Aa wsa.length Ca) := HBXa.out.cell 1
    replace lXa := HBXa.out.lt
    replace fXa0 := HBXa.out.free 0
    replace fXa1 := HBXa.out.free 1
    replace HBXb := Lib.hid (HBXb.out.frm hs13 id)
    replace cXb0 : w3.cell? ⟨Xb, 0, none⟩ = some (.int .i64 n) := HBXb.out.cell 0
    replace cXb1 : w3.cell? ⟨Xb, 1, none⟩ = some (.slice Ab wsb.length Cb) := HBXb.out.cell 1
    replace lXb := HBXb.out.lt
    replace fXb0 := HBXb.out.free 0
    replace fXb1 := HBXb.out.free 1
    replace HBXc := Lib.hid (HBXc.out.frm hs13 id)
    replace cXc0 : w3.cell? ⟨Xc, 0, none⟩ = some (.int .i64 n) := HBXc.out.cell 0
    replace cXc1 : w3.cell? ⟨Xc, 1, none⟩ = some (.slice Ac wsc.length Cc) := HBXc.out.cell 1
    replace lXc := HBXc.out.lt
    replace fXc0 := HBXc.out.free 0
    replace fXc1 := HBXc.out.free 1
    replace HBR := Lib.hid (HBR.out.frm hs13 id)
    replace cR0 : w3.cell? ⟨R, 0, none⟩ = some (.int .i64 0) := HBR.out.cell 0
    replace cR1 : w3.cell? ⟨R, 1, none⟩ = some (.slice none 0 0) := HBR.out.cell 1
    replace lR := HBR.out.lt
    replace fR0 := HBR.out.free 0
    replace fR1 := HBR.out.free 1
    replace HS1 := Lib.hid (HS1.out.trans hs13 (fun _ _ h => h))
    clear hs13
    have htl : Tells w3 n 35 #[.pointer (some ⟨w.heap.size, 0, none⟩), .pointer (some ⟨Xb, 0, none⟩), .pointer (some ⟨Xc, 0, none⟩)] (fun i => iteN (wsa.getD i 0) (wsb.getD i 0) (wsc.getD i 0)) := fun i hi => ⟨iteN_lt (by have hil : i < wsa.length := (by rw [HLa.out]; exact hi); rw [List.getD_eq_getElem?_getD, List.getElem?_eq_getElem hil]; exact HSa.out _ (List.getElem_mem hil)), fun w' hs' => by
      refine (ite1_any i w.heap.size Xb Xc w' Aa Ca wsa (by rw [HLa.out]; exact hi) (Sl.same (Sl.same Ha.out.wl HS1.out) hs') HSa.out ((hs'.cell (p := ⟨w.heap.size, 1, none⟩) lXa id).trans cXa1) Ab Cb wsb (by rw [HLb.out]; exact hi) (Sl.same (Sl.same Hb.out.wl HS1.out) hs') HSb.out ((hs'.cell (p := ⟨Xb, 1, none⟩) lXb id).trans cXb1) Ac Cc wsc (by rw [HLc.out]; exact hi) (Sl.same (Sl.same Hc.out.wl HS1.out) hs') HSc.out ((hs'.cell (p := ⟨Xc, 1, none⟩) lXc id).trans cXc1)).mono ?_
      exact fun e w'' h => h⟩
    have HTL := Lib.hid htl
    clear htl
    go_wp2_with (fail)
    refine (laid_any n 35 #[.pointer (some ⟨w.heap.size, 0, none⟩), .pointer (some ⟨Xb, 0, none⟩), .pointer (some ⟨Xc, 0, none⟩)] (fun i => iteN (wsa.getD i 0) (wsb.getD i 0) (wsc.getD i 0)) w3 hn HEN.out HTL.out).mono ?_
    rintro e w4 ⟨Aq, Cq, rfl, hNT⟩
    rw [HTB.out] at hNT ⊢
    have hoq := hNT.1
    have hfq := hNT.2.1
    have hsq := hNT.2.2
    have hRq : ∀ a, Aq = some a → a.block ≠ R := fun a ha h => by
      have := hfq a.block ⟨a, ha, rfl⟩
      omega
    have HBRq := Lib.hid (HBR.out.frm hsq id)
    have HSq := Lib.hid (HS1.out.trans hsq (fun _ _ h => h))
    have hfq' : Fresh w.heap.size Aq := fun b hb => by have := hfq b hb; have := HS1.out.size; omega
    have HOQ := Lib.hid hoq
    have HFQ := Lib.hid hfq'
    have hcR0 : w4.cell? ⟨R, 0, none⟩ = some (.int .i64 0) := HBRq.out.cell 0
    have hcR1 : w4.cell? ⟨R, 1, none⟩ = some (.slice none 0 0) := HBRq.out.cell 1
    have hfR0 := HBRq.out.free 0
    have hfR1 := HBRq.out.free 1
    have hlR := HBRq.out.lt
    clear hNT hoq hfq hsq hfq'
    go_wp2
    refine wp_post fun we hwe => ?_
    have hBE : Blk we R 26 #[.int .i64 n, .slice Aq (tab n (iteF wsa wsb wsc)).length Cq] := by
      rw [hwe]
      have := (HBRq.out.set 0 (.int .i64 n)).set 1 (.slice Aq (tab n (iteF wsa wsb wsc)).length Cq)
      simpa using this
    have hSE : Same w we := by rw [hwe]; exact (HSq.out.setNew 0 _ leR).setNew 1 _ leR
    have hOE : OwnW we Aq (tab n (iteF wsa wsb wsc)).length Cq (tab n (iteF wsa wsb wsc)) := by
      rw [hwe]
      exact (Own.far (p := ⟨R, 0, none⟩) HOQ.out hRq _).far (p := ⟨R, 1, none⟩) hRq _
    have hr0 : we.cell? ⟨R, 0, none⟩ = some (.int .i64 n) := hBE.cell 0
    have hr1 : we.cell? ⟨R, 1, none⟩ = some (.slice Aq (tab n (iteF wsa wsb wsc)).length Cq) := hBE.cell 1
    clear hwe hBE
    refine bodyPost_ret (v := .tuple #[.agg #[.int .i64 n, .slice Aq (tab n (iteF wsa wsb wsc)).length Cq], .int .i64 0]) (by simp [results, Try.results24, go_sem, hr0, hr1]) rfl ?_
    exact ⟨Aq, Cq, rfl, hOE, HFQ.out, hSE⟩
end Go.Proofs.Ytaakjecnompogaa


/- Truth tables: the reference's DocNot, DocBinary, DocIte. -/
namespace Go.Proofs.Ytaakjecnompogaa
open Go.RowKit Go.Tk

end Go.Proofs.Ytaakjecnompogaa


/- Truth tables: TruthJoins: the walk. -/
namespace Go.Proofs.Ytaakjecnompogaa
open Go.RowKit Go.Tk

abbrev TIn (w : World) := {t : Tb // TbIn w t}
theorem tabs_at {w : World} {A : Option Addr} {n : Nat} {xs : List (TIn w)} (h : Sl w 2 (fun x : TIn w => x.1.cells) A n xs) {i : Nat} (hi : i < n) : ∃ (bl o : Nat) (t : Tb), A = some ⟨bl, o, none⟩ ∧ bl < w.heap.size ∧ TbIn w t ∧
    w.cell? ⟨bl, o + i * 2 + 0, none⟩ = some (.int .i64 t.N) ∧ w.cell? ⟨bl, o + i * 2 + 1, none⟩ = some (.slice t.A t.ws.length t.C) := by
  obtain ⟨x, hx⟩ : ∃ x, xs[i]? = some x := ⟨_, List.getElem?_eq_getElem (by rw [← h.len]; exact hi)⟩
  obtain ⟨b, o, hA, hb, hc⟩ := h.get i x hx
  exact ⟨b, o, x.1, hA, hb, x.2, hc 0 (by omega), hc 1 (by omega)⟩
theorem fmE_len {N : Int} {F : Nat → Bool} {b : Bool} (h : b = true → N.toNat ≤ 16) : (ansL (tab N.toNat F) (fmE b)).length ≤ 1000000000000000000 := by
  cases b with
  | false => simp [fmE, ansL]
  | true =>
    rw [show ansL (tab N.toNat F) (fmE true) = tab N.toNat F from rfl]
    exact tab_len_le (h rfl)
theorem binE_len {N : Int} {F : Nat → Bool} {b : Bool} {op : Nat} (h : b = true → N.toNat ≤ 16) : (ansL (tab N.toNat F) (binE op b)).length ≤ 1000000000000000000 := by
  unfold binE
  split
  · simp [ansL]
  · exact fmE_len h
theorem frm_16 {N : Int} {ws : List Nat} (h : frm N ws = true) : N.toNat ≤ 16 := by
  obtain ⟨n, rfl, hf⟩ := frm_true h
  have := hf.n16
  omega
theorem fm_16 {N : Int} {A : Option Addr} {C : Nat} {ws : List Nat} {r : List Tb} (h : fm (⟨N, A, C, ws⟩ :: r) = true) : N.toNat ≤ 16 := by
  have : frm N ws = true := by
    simp [fm, Tb.frm] at h
    exact h.1
  exact frm_16 this
end Go.Proofs.Ytaakjecnompogaa


/- Truth tables: slices.Equal at words; Support of the program and of the reference; DocCount. -/
namespace Go.Proofs.Ytaakjecnompogaa
open Go.RowKit Go.Tk

set_option maxRecDepth 100000 in
set_option maxHeartbeats 4000000 in
theorem equalW_any (Aa : Option Addr) (La Ca : Nat) (wsa : List Nat) (Ab : Option Addr) (Lb Cb : Nat) (wsb : List Nat) (w : World) (ha : WL w Aa La wsa) (hb : WL w Ab Lb wsb) (hbd : La ≤ 1000000000000000000) :
    Calls Try.prog 19 #[.slice Aa La Ca, .slice Ab Lb Cb] w fun e w' => e = .returned (.bool (decide (wsa = wsb))) ∧ Same w w' := by
  have hla := ha.len
  have hlb := hb.len
  obtain ⟨r, hr⟩ : ∃ r, decide (wsa = wsb) = r := ⟨_, rfl⟩
  rw [hr]
  have HA := Lib.hid ha
  have HB := Lib.hid hb
  by_cases h2 : La = Lb
  · subst h2
    have HR := Lib.hid hr
    have HLA := Lib.hid hla
    have HLB := Lib.hid hlb
    clear hr hla hlb ha hb
    go_enter Try.func19, Try.ntmps19
    go_wp2
    go_loopw [13] (fun i wr => ∃ k : Nat, k ≤ La ∧ i = .int .i64 k ∧ (∀ j x y, wsa[j]? = some x → wsb[j]? = some y → j < k → x = y) ∧ Same w wr) (fun i _ => La - (intOf i).toNat)
    case atStart => exact ⟨0, by omega, rfl, fun j x y _ _ h => by omega, Frm.refl _ _⟩
    case round =>
      obtain ⟨k, hk, rfl, hall, hs⟩ := hrel
      have HALL := Lib.hid hall
      have HSR := Lib.hid hs
      clear hall
      by_cases hlt : k < La
      · have hk0 : (0 : Int) ≤ k := by omega
        have hk1 : (k : Int) < La := by omega
        obtain ⟨x, hx⟩ : ∃ x, wsa[k]? = some x := ⟨_, List.getElem?_eq_getElem (by rw [← HLA.out]; exact hlt)⟩
        obtain ⟨y, hy⟩ : ∃ x, wsb[k]? = some x := ⟨_, List.getElem?_eq_getElem (by rw [← HLB.out]; exact hlt)⟩
        obtain ⟨ba, offa, hAa, hbla, hca⟩ := WL.at1 (Sl.same HA.out hs) hx
        obtain ⟨bb, offb, hAb, hblb, hcb⟩ := WL.at1 (Sl.same HB.out hs) hy
        subst hAa hAb
        have HX := Lib.hid hx
        have HY := Lib.hid hy
        clear hx hy hs
        by_cases hxy : x = y
        · subst hxy
          have hbq : ((x : Int) != (x : Int)) = false := by simp
          go_upto_region 6 with fail
          refine wp_quiet (by kernel_rfl) (by kernel_rfl) ?_
          repeat (any_goals (first | go_big_quiet_step (fail) | quiet_step (fail)))
          refine wpQuiet_nil ?_
          rintro wq ⟨q, hq⟩
          have hsq : Same wr wq := by rw [hq]; exact more_same _ q
          clear hq
          go_wp2
          go_roundw
          case rel => exact ⟨k + 1, by omega, by go_num, fun j x' y' hx' hy' hj => by
            by_cases hjk : j < k
            · exact HALL.out j x' y' hx' hy' hjk
            · obtain rfl : j = k := by omega
              exact (Option.some.inj (hx'.symm.trans HX.out)).trans (Option.some.inj (hy'.symm.trans HY.out)).symm, HSR.out.trans hsq (fun _ _ h => h)⟩
          case measure => simp [intOf]; omega
        · have hf : r = false := by
            rw [← HR.out]
            rw [decide_eq_false_iff_not]
            intro hw
            rw [hw] at HX
            exact hxy (Option.some.inj (HX.out.symm.trans HY.out))
          subst hf
          have hxi : (x : Int) ≠ y := by omega
          go_upto_region 6 with fail
          refine wp_quiet (by kernel_rfl) (by kernel_rfl) ?_
          repeat (any_goals (first | go_big_quiet_step (fail) | quiet_step (fail)))
          refine wpQuiet_nil ?_
          rintro wq ⟨q, hq⟩
          have hsq : Same wr wq := by rw [hq]; exact more_same _ q
          clear hq
          go_wp2
          go_ret
          exact ⟨rfl, HSR.out.trans hsq (fun _ _ h => h)⟩
      · obtain rfl : k = La := by omega
        have hf : r = true := by
          rw [← HR.out]
          rw [decide_eq_true_eq]
          refine List.ext_getElem? fun j => ?_
          by_cases hj : j < k
          · obtain ⟨x, hx⟩ : ∃ x, wsa[j]? = some x := ⟨_, List.getElem?_eq_getElem (by rw [← HLA.out]; exact hj)⟩
            obtain ⟨y, hy⟩ : ∃ x, wsb[j]? = some x := ⟨_, List.getElem?_eq_getElem (by rw [← HLB.out]; exact hj)⟩
            rw [hx, hy, HALL.out j x y hx hy hj]
          · rw [List.getElem?_eq_none (by rw [← HLA.out]; omega), List.getElem?_eq_none (by rw [← HLB.out]; omega)]
        subst hf
        clear hs
        go_wp2
        go_ret
        exact ⟨rfl, HSR.out⟩
  · have hf : r = false := by
      rw [← hr]
      rw [decide_eq_false_iff_not]
      intro hw
      rw [hw] at hla
      omega
    subst hf
    have h3 : (La : Int) ≠ Lb := by omega
    clear hr hla hlb ha hb
    go_enter Try.func19, Try.ntmps19
    go_wp2
    go_ret
    exact ⟨rfl, Frm.refl _ _⟩
theorem run_words (a : Int) (A : Option Addr) (n C : Nat) (w : World) : (Instr.field 26 (.agg #[.int .i64 a, .slice A n C]) 1).run Try.prog w = .ok (.slice A n C) w := rfl
/-- does it depend on v? -/
def depB (n : Nat) (ws : List Nat) (v : Nat) : Bool := !decide (tab n (hfF v false ws) = tab n (hfF v true ws))
theorem depB_false {n : Nat} {ws : List Nat} {v : Nat} (h : ∀ i, i < 2 ^ n → hfF v false ws i = hfF v true ws i) : depB n ws v = false := by
  unfold depB
  rw [tab_congr h]
  simp
theorem depB_true {n : Nat} {ws : List Nat} {v i : Nat} (hi : i < 2 ^ n) (h : hfF v false ws i ≠ hfF v true ws i) : depB n ws v = true := by
  unfold depB
  have : tab n (hfF v false ws) ≠ tab n (hfF v true ws) := fun he => h (by
    have h2 := congrArg (fun t => vb t i) he
    simp only [vb_tab hi] at h2
    exact h2)
  simp [this]
def supN (N : Int) (ws : List Nat) : Nat := if frm N ws then bsum (depB N.toNat ws) N.toNat else 0
theorem bsum_add (F : Nat → Bool) (j : Nat) : bsum F j + (if F j then 2 ^ j else 0) = bsum F (j + 1) := rfl
set_option maxRecDepth 100000 in
set_option maxHeartbeats 8000000 in
theorem Support_any (Na : Int) (Aa : Option Addr) (Ca : Nat) (wsa : List Nat) (w : World) (h : TbOk w ⟨Na, Aa, Ca, wsa⟩) : Calls Try.prog 9 #[.agg #[.int .i64 Na, .slice Aa wsa.length Ca]] w fun e w' => e = .returned (.tuple #[.int .u64 (supN Na wsa : Nat), .int .i64 (fmE (frm Na wsa))]) ∧ Same w w' := by
  have H := Lib.hid h
  clear h
  unfold supN
  cases hfr : frm Na wsa with
  | false =>
    rw [if_neg (by decide), show fmE false = 5 from rfl]
    have HFM := Lib.hid ((frm_one Na Aa Ca wsa).trans hfr)
    clear hfr
    go_enter Try.func9, Try.ntmps9
    go_upto_region 1 with fail
    refine wp_world fun w1 hw1 => ?_
    have hs1 : Same w w1 := by rw [hw1]; exact (Frm.refl _ _).alloc _
    have hBXa : Blk w1 (w.heap.size) 26 #[.int .i64 Na, .slice Aa wsa.length Ca] := by
      rw [hw1]
      have := (Blk.new w 26 #[.int .i64 Na, .slice Aa wsa.length Ca])
      simpa using this
    clear hw1
    have cXa0 : w1.cell? ⟨w.heap.size, 0, none⟩ = some (.int .i64 Na) := hBXa.cell 0
    have cXa1 : w1.cell? ⟨w.heap.size, 1, none⟩ = some (.slice Aa wsa.length Ca) := hBXa.cell 1
    have lXa := hBXa.lt
    have fXa0 := hBXa.free 0
    have fXa1 := hBXa.free 1
    have HBXa := Lib.hid hBXa
    have HS1 := Lib.hid hs1
    clear hs1 hBXa
    have HOKa := Lib.hid (H.out.same HS1.out)
    go_wp2_with (fail)
    refine call_world fun w2 hw2 => ?_
    have hs2 : Same w1 w2 := by rw [hw2]; exact (Frm.refl _ _).alloc _
    have hBL : Blk w2 w1.heap.size 26 #[.int .i64 Na, .slice Aa wsa.length Ca] := by rw [hw2]; exact Blk.new _ _ _
    have htbs : Tbs w2 w1.heap.size [⟨Na, Aa, Ca, wsa⟩] := by
      intro i t hi
      match i, hi with
      | 0, hi =>
        simp only [List.getElem?_cons_zero, Option.some.injEq] at hi
        subst hi
        exact ⟨hBL.lt, hBL.cell 0, hBL.cell 1⟩
      | i + 1, hi => simp at hi
    have hfc := form_any w1.heap.size 1 1 [⟨Na, Aa, Ca, wsa⟩] w2 rfl (by decide) htbs (fun t ht => by
      simp only [List.mem_cons, List.not_mem_nil, or_false] at ht
      rcases ht with rfl
      · exact (HOKa.out).same hs2)
    rw [HFM.out] at hfc
    refine hfc.mono ?_
    clear hfc htbs hBL hw2
    rintro e w3 ⟨rfl, hs3⟩
    have hs13 : Same w1 w3 := hs2.trans hs3 (fun _ _ h => h)
    clear hs2 hs3
    replace HBXa := Lib.hid (HBXa.out.frm hs13 id)
    replace cXa0 : w3.cell? ⟨w.heap.size, 0, none⟩ = some (.int .i64 Na) := HBXa.out.cell 0
    replace cXa1 : w3.cell? ⟨w.heap.size, 1, none⟩ = some (.slice Aa wsa.length Ca) := HBXa.out.cell 1
    replace lXa := HBXa.out.lt
    replace fXa0 := HBXa.out.free 0
    replace fXa1 := HBXa.out.free 1
    replace HS1 := Lib.hid (HS1.out.trans hs13 (fun _ _ h => h))
    clear hs13
    go_wp2
    go_ret2
    exact ⟨rfl, HS1.out⟩
  | true =>
    obtain ⟨n, rfl, hform⟩ := frm_true hfr
    rw [if_pos rfl, show fmE true = 0 from rfl, Int.toNat_natCast]
    have HFM := Lib.hid ((frm_one n Aa Ca wsa).trans hfr)
    have hn := hform.n16
    have HF := Lib.hid hform
    clear hfr hform
    obtain ⟨pf, hpf⟩ : ∃ p, bsum (depB n wsa) n = p := ⟨_, rfl⟩
    rw [hpf]
    have HPF := Lib.hid hpf
    clear hpf
    go_enter Try.func9, Try.ntmps9
    go_upto_region 1 with fail
    refine wp_world fun w1 hw1 => ?_
    have hs1 : Same w w1 := by rw [hw1]; exact (Frm.refl _ _).alloc _
    have hBXa : Blk w1 (w.heap.size) 26 #[.int .i64 n, .slice Aa wsa.length Ca] := by
      rw [hw1]
      have := (Blk.new w 26 #[.int .i64 n, .slice Aa wsa.length Ca])
      simpa using this
    clear hw1
    have cXa0 : w1.cell? ⟨w.heap.size, 0, none⟩ = some (.int .i64 n) := hBXa.cell 0
    have cXa1 : w1.cell? ⟨w.heap.size, 1, none⟩ = some (.slice Aa wsa.length Ca) := hBXa.cell 1
    have lXa := hBXa.lt
    have fXa0 := hBXa.free 0
    have fXa1 := hBXa.free 1
    have HBXa := Lib.hid hBXa
    have HS1 := Lib.hid hs1
    clear hs1 hBXa
    have HOKa := Lib.hid (H.out.same HS1.out)
    go_wp2_with (fail)
    refine call_world fun w2 hw2 => ?_
    have hs2 : Same w1 w2 := by rw [hw2]; exact (Frm.refl _ _).alloc _
    have hBL : Blk w2 w1.heap.size 26 #[.int .i64 n, .slice Aa wsa.length Ca] := by rw [hw2]; exact Blk.new _ _ _
    have htbs : Tbs w2 w1.heap.size [⟨n, Aa, Ca, wsa⟩] := by
      intro i t hi
      match i, hi with
      | 0, hi =>
        simp only [List.getElem?_cons_zero, Option.some.injEq] at hi
        subst hi
        exact ⟨hBL.lt, hBL.cell 0, hBL.cell 1⟩
      | i + 1, hi => simp at hi
    have hfc := form_any w1.heap.size 1 1 [⟨n, Aa, Ca, wsa⟩] w2 rfl (by decide) htbs (fun t ht => by
      simp only [List.mem_cons, List.not_mem_nil, or_false] at ht
      rcases ht with rfl
      · exact (HOKa.out).same hs2)
    rw [HFM.out] at hfc
    refine hfc.mono ?_
    clear hfc htbs hBL hw2
    rintro e w3 ⟨rfl, hs3⟩
    have hs13 : Same w1 w3 := hs2.trans hs3 (fun _ _ h => h)
    clear hs2 hs3
    replace HBXa := Lib.hid (HBXa.out.frm hs13 id)
    replace cXa0 : w3.cell? ⟨w.heap.size, 0, none⟩ = some (.int .i64 n) := HBXa.out.cell 0
    replace cXa1 : w3.cell? ⟨w.heap.size, 1, none⟩ = some (.slice Aa wsa.length Ca) := HBXa.out.cell 1
    replace lXa := HBXa.out.lt
    replace fXa0 := HBXa.out.free 0
    replace fXa1 := HBXa.out.free 1
    replace HS1 := Lib.hid (HS1.out.trans hs13 (fun _ _ h => h))
    clear hs13
    go_wp2
    go_loopw [4, 12] (fun s i wr => ∃ k : Nat, k ≤ n ∧ i = .int .i64 k ∧ s = .int .u64 (bsum (depB n wsa) k : Nat) ∧ Same w3 wr) (fun _ i _ => n - (intOf i).toNat)
    case atStart => exact ⟨0, by omega, rfl, rfl, Frm.refl _ _⟩
    case round =>
      obtain ⟨k, hk, rfl, rfl, hs⟩ := hrel
      have HS0 := Lib.hid hs
      have HBr := Lib.hid (HBXa.out.frm hs id)
      have HSr := Lib.hid (HS1.out.trans hs (fun _ _ h => h))
      have dX0 : wr.cell? ⟨w.heap.size, 0, none⟩ = some (.int .i64 n) := HBr.out.cell 0
      have dX1 : wr.cell? ⟨w.heap.size, 1, none⟩ = some (.slice Aa wsa.length Ca) := HBr.out.cell 1
      have dXl := HBr.out.lt
      clear cXa0 cXa1 fXa0 fXa1 lXa hs
      by_cases hlt : k < n
      · have hk1 : (k : Int) < n := by omega
        have hbl := bsum_lt (depB n wsa) k
        have hpk : 2 ^ k ≤ 2 ^ 15 := Nat.pow_le_pow_right (by omega) (by omega)
        have hst := bsum_or (depB n wsa) k
        have hdp : (!decide (tab n (hfF k false wsa) = tab n (hfF k true wsa))) = depB n wsa k := rfl
        have HST := Lib.hid hst
        have HDP := Lib.hid hdp
        have HLK := Lib.hid hlt
        have hsw : IntKind.u64.wrap ((2 : Int) ^ k) = ((2 ^ k : Nat) : Int) := by
          rw [pow_int]
          generalize 2 ^ k = p at hpk
          exact IntWalk.u64_in _ (by omega)
        have hk0 : (0 : Int) ≤ k := by omega
        have hmk : min k 64 = k := by omega
        have hor := u64_or_nat (bsum (depB n wsa) k) (2 ^ k) (by omega) (by omega)
        rw [← pow_int k] at hor
        clear hst hdp
        generalize bsum (depB n wsa) k = bs at *
        have hfld := run_words
        go_upto_region 7 with fail
        refine wp_phS (fun _ => False) [([0, 1, 4, 5], 2), ([3], 6), ([7], 8), ([], 9)] (by kernel_rfl) (by kernel_rfl) ?_
        simp only [wpPh, pick, List.map_cons, List.map_nil, List.getD_cons_zero, List.getD_cons_succ]
        have hs : Same wr wr.drew := (Frm.refl _ _).drew
        repeat (any_goals (first | go_big_quiet_step (fail) | quiet_step (fail)))
        refine wpQuiet_nil ?_
        refine effStep_plain rfl fun K hK => ?_
        go_simp
        refine (half_any n k false Aa Ca wsa _ (H.out.same (HSr.out.trans hs (fun _ _ h => h))) HF.out HLK.out).mono ?_
        rintro e u ⟨A0, C0, rfl, hNT⟩
        have hs := hs.trans hNT.2.2 (fun _ _ h => h)
        have ho0 := hNT.1
        refine hK _ _ (Lat.mk_ (Frm.mono hs (fun _ _ h => h.elim))) ?_
        clear hK K hNT
        repeat (any_goals (first | go_big_quiet_step (fail) | quiet_step (fail)))
        refine wpQuiet_nil ?_
        refine effStep_plain rfl fun K hK => ?_
        go_simp
        refine (half_any n k true Aa Ca wsa _ (H.out.same (HSr.out.trans hs (fun _ _ h => h))) HF.out HLK.out).mono ?_
        rintro e u ⟨A1, C1, rfl, hNT⟩
        have hs := hs.trans hNT.2.2 (fun _ _ h => h)
        have ho0 := Own.frm ho0 hNT.2.2 (fun _ _ => id)
        have ho1 := hNT.1
        refine hK _ _ (Lat.mk_ (Frm.mono hs (fun _ _ h => h.elim))) ?_
        clear hK K hNT
        repeat (any_goals (first | go_big_quiet_step (fail) | quiet_step (fail)))
        refine wpQuiet_nil ?_
        refine effStep_plain rfl fun K hK => ?_
        go_simp
        refine (equalW_any A0 _ C0 _ A1 _ C1 _ _ (ho0.sl ucell_len) (ho1.sl ucell_len) (tab_len_le hn)).mono ?_
        rintro e u ⟨rfl, hsz⟩
        have hs := hs.trans hsz (fun _ _ h => h)
        have hdd := HDP.out
        refine hK _ _ (Lat.mk_ (Frm.mono hs (fun _ _ h => h.elim))) ?_
        generalize decide (tab n (hfF k false wsa) = tab n (hfF k true wsa)) = dd at *
        have HDD := Lib.hid hdd
        clear hK K hsz ho0 ho1 hdd
        have HSN := Lib.hid (HS0.out.trans hs (fun _ _ h => h))
        have hBX := HBr.out.frm hs id
        clear hs
        cases dd
        · have hd : depB n wsa k = true := HDD.out.symm
          rw [hd, if_pos rfl] at HST
          refine wpQuiet_nil ?_
          go_wp2
          go_roundw
          case rel => exact ⟨k + 1, by omega, by go_num, by rw [← HST.out], HSN.out⟩
          case measure => simp [intOf]; omega
        · have hd : depB n wsa k = false := HDD.out.symm
          rw [hd, if_neg (by decide), Nat.or_zero] at HST
          refine wpQuiet_nil ?_
          go_wp2
          go_roundw
          case rel => exact ⟨k + 1, by omega, by go_num, by rw [← HST.out], HSN.out⟩
          case measure => simp [intOf]; omega
      · obtain rfl : k = n := by omega
        rw [HPF.out]
        go_wp2
        go_ret2
        exact ⟨rfl, HSr.out⟩
end Go.Proofs.Ytaakjecnompogaa


/- Truth tables: Support of the reference; TruthTells: the walk. -/
namespace Go.Proofs.Ytaakjecnompogaa
open Go.RowKit Go.Tk

end Go.Proofs.Ytaakjecnompogaa


/- Truth tables: TruthTells: the walk. -/
namespace Go.Proofs.Ytaakjecnompogaa
open Go.RowKit Go.Tk

end Go.Proofs.Ytaakjecnompogaa


/- Truth tables: not and two of the law. -/
namespace Go.Proofs.Ytaakjecnompogaa
open Go.RowKit Go.Tk

end Go.Proofs.Ytaakjecnompogaa


/- Truth tables: what TruthShannon asks, plain. -/
namespace Go.Tk

theorem cntB_countP (F : Nat → Bool) : ∀ m, cntB F m = (List.range m).countP F
  | 0 => rfl
  | m + 1 => by
    rw [cntB, cntB_countP F m, List.range_succ, List.countP_append, List.countP_singleton]
theorem cntB_perm {F : Nat → Bool} {M : Nat} {σ : Nat → Nat} (h : ∀ i, i < M → σ i < M) (inj : ∀ i j, i < M → j < M → σ i = σ j → i = j) : cntB (fun i => F (σ i)) M = cntB F M := by
  have hnd : ((List.range M).map σ).Nodup := by
    rw [List.nodup_iff_pairwise_ne, List.pairwise_map]
    refine (List.nodup_iff_pairwise_ne.1 (List.nodup_range (n := M))).imp_of_mem fun ha hb hne he => ?_
    exact hne (inj _ _ (List.mem_range.1 ha) (List.mem_range.1 hb) he)
  have hp := sub_perm ((List.range M).map σ) (List.range M) hnd (fun x hx => by
    obtain ⟨i, hi, rfl⟩ := List.mem_map.1 hx
    exact List.mem_range.2 (h i (List.mem_range.1 hi))) (by simp)
  rw [cntB_countP, cntB_countP, hp.countP_eq F, List.countP_map]
  rfl
theorem cntB_sum {a b c d : Nat → Bool} : ∀ {m}, (∀ i, i < m → (a i).toNat + (b i).toNat = (c i).toNat + (d i).toNat) → cntB a m + cntB b m = cntB c m + cntB d m
  | 0, _ => rfl
  | m + 1, h => by
    have ih := cntB_sum (m := m) fun i hi => h i (by omega)
    have h1 := h m (by omega)
    have e : ∀ F : Nat → Bool, cntB F (m + 1) = cntB F m + (F m).toNat := fun F => by rw [cntB]; cases F m <;> rfl
    rw [e, e, e, e]
    omega
theorem wth_self (i v : Nat) : wth i v (i.testBit v) = i := (wth_of fun j => by
  by_cases h : j = v
  · subst h; simp
  · simp [h]).symm
theorem wth_twice (i v : Nat) (b c : Bool) : wth (wth i v b) v c = wth i v c := wth_of fun j => by
  rw [wth_bit, wth_bit]
  by_cases h : j = v <;> simp [h]
theorem wth_comm {i u v : Nat} {b c : Bool} (h : u ≠ v) : wth (wth i u b) v c = wth (wth i v c) u b := wth_of fun j => by
  rw [wth_bit, wth_bit, wth_bit]
  by_cases h1 : j = v
  · subst h1
    simp [Ne.symm h]
  · simp [h1]
theorem mask_sub {F G : Nat → Bool} {n V : Nat} (hn : n ≤ 64) (h : ∀ u, u < n → F u = true → G u = true ∧ u ≠ V) :
    bsum F n &&& (18446744073709551615 - (bsum G n &&& (18446744073709551615 - 2 ^ V % 18446744073709551616))) = 0 := by
  have hG : bsum G n < 18446744073709551616 := Nat.lt_of_lt_of_le (bsum_lt G n) (show 2 ^ n ≤ 2 ^ 64 from Nat.pow_le_pow_right (by omega) hn)
  have hp : 2 ^ V % 18446744073709551616 < 18446744073709551616 := Nat.mod_lt _ (by omega)
  have hx : bsum G n &&& (18446744073709551615 - 2 ^ V % 18446744073709551616) < 18446744073709551616 := Nat.lt_of_le_of_lt Nat.and_le_left hG
  apply Nat.eq_of_testBit_eq
  intro j
  rw [Nat.testBit_and, bsum_bit, Nat.zero_testBit]
  by_cases hj : j < n
  · cases hF : F j with
    | false => simp
    | true =>
      obtain ⟨h1, h2⟩ := h j hj hF
      have hj64 : j < 64 := by omega
      rw [not64_bit hx hj64, Nat.testBit_and, bsum_bit, not64_bit hp hj64, show (18446744073709551616 : Nat) = 2 ^ 64 by decide, Nat.testBit_mod_two_pow, Nat.testBit_two_pow]
      simp [hj, h1, Ne.symm h2]
  · simp [hj]
end Go.Tk
namespace Go.Proofs.Ytaakjecnompogaa
open Go.RowKit Go.Tk

theorem depB_eq {n : Nat} {ws : List Nat} {u : Nat} (h : depB n ws u = false) {i : Nat} (hi : i < 2 ^ n) : vb ws (wth i u false) = vb ws (wth i u true) := by
  by_cases hne : vb ws (wth i u false) = vb ws (wth i u true)
  · exact hne
  · have := depB_true (n := n) (ws := ws) (v := u) hi hne
    rw [h] at this
    cases this
theorem dep_cof {n V u : Nat} {b : Bool} {ws : List Nat} (hV : V < n) (hu : u < n) (h : depB n (tab n (hfF V b ws)) u = true) : depB n ws u = true ∧ u ≠ V := by
  by_cases huV : u = V
  · subst huV
    rw [depB_false] at h
    · cases h
    · intro i hi
      unfold hfF
      rw [vb_tab (wth_lt hi hu), vb_tab (wth_lt hi hu), wth_twice, wth_twice]
  · refine ⟨?_, huV⟩
    cases hd : depB n ws u with
    | true => rfl
    | false =>
      rw [depB_false] at h
      · cases h
      · intro i hi
        show vb (tab n (hfF V b ws)) (wth i u false) = vb (tab n (hfF V b ws)) (wth i u true)
        rw [vb_tab (wth_lt hi hu), vb_tab (wth_lt hi hu)]
        unfold hfF
        rw [wth_comm huV, wth_comm huV]
        exact depB_eq hd (wth_lt hi hV)
theorem dep_ex {n V u : Nat} {ws : List Nat} (hV : V < n) (hu : u < n) (h : depB n (tab n (exF V ws)) u = true) : depB n ws u = true ∧ u ≠ V := by
  by_cases huV : u = V
  · subst huV
    rw [depB_false] at h
    · cases h
    · intro i hi
      show vb (tab n (exF u ws)) (wth i u false) = vb (tab n (exF u ws)) (wth i u true)
      rw [vb_tab (wth_lt hi hu), vb_tab (wth_lt hi hu)]
      unfold exF hfF
      rw [wth_twice, wth_twice, wth_twice, wth_twice]
  · refine ⟨?_, huV⟩
    cases hd : depB n ws u with
    | true => rfl
    | false =>
      rw [depB_false] at h
      · cases h
      · intro i hi
        show vb (tab n (exF V ws)) (wth i u false) = vb (tab n (exF V ws)) (wth i u true)
        rw [vb_tab (wth_lt hi hu), vb_tab (wth_lt hi hu)]
        unfold exF hfF
        rw [wth_comm (b := false) (c := false) huV, wth_comm (b := false) (c := true) huV, wth_comm (b := true) (c := false) huV, wth_comm (b := true) (c := true) huV, depB_eq hd (wth_lt (b := false) hi hV), depB_eq hd (wth_lt (b := true) hi hV)]
theorem shan_ite {n V : Nat} {ws : List Nat} (hf : FormN n ws) (hb : Small ws) : tab n (iteF (tab n (varF V)) (tab n (hfF V true ws)) (tab n (hfF V false ws))) = ws := by
  refine Eq.trans (tab_congr fun i hi => ?_) (tab_vb hf hb)
  unfold iteF
  rw [vb_tab hi, vb_tab hi, vb_tab hi]
  unfold varF hfF
  conv => rhs; rw [← wth_self i V]
  cases i.testBit V <;> rfl
theorem shan_or {n V : Nat} {ws : List Nat} : tab n (binF 14 (tab n (hfF V true ws)) (tab n (hfF V false ws))) = tab n (exF V ws) := tab_congr fun i hi => by
  unfold binF exF
  rw [vb_tab hi, vb_tab hi]
  cases hfF V true ws i <;> cases hfF V false ws i <;> decide
theorem shan_cnt {n V : Nat} {ws : List Nat} (hV : V < n) : cntB (vb (tab n (hfF V true ws))) (2 ^ n) + cntB (vb (tab n (hfF V false ws))) (2 ^ n) = 2 * cntB (vb ws) (2 ^ n) := by
  have hσ : cntB (fun i => vb ws (wth i V (!i.testBit V))) (2 ^ n) = cntB (vb ws) (2 ^ n) := cntB_perm (σ := fun i => wth i V (!i.testBit V)) (fun i hi => wth_lt hi hV) (fun i j _ _ h => by
    have h' : wth i V (!i.testBit V) = wth j V (!j.testBit V) := h
    apply Nat.eq_of_testBit_eq
    intro t
    have ht := congrArg (fun x => x.testBit t) h'
    have hv := congrArg (fun x => x.testBit V) h'
    simp only [wth_bit, if_true] at ht hv
    by_cases htV : t = V
    · subst htV
      simpa using hv
    · simpa [htV] using ht)
  rw [cntB_congr (F := vb (tab n (hfF V true ws))) (fun j hj => vb_tab hj), cntB_congr (F := vb (tab n (hfF V false ws))) (fun j hj => vb_tab hj)]
  have := cntB_sum (a := hfF V true ws) (b := hfF V false ws) (c := vb ws) (d := fun i => vb ws (wth i V (!i.testBit V))) (m := 2 ^ n) fun i _ => by
    unfold hfF
    conv => rhs; rw [← wth_self i V]
    rw [wth_bit, if_pos rfl, wth_twice]
    cases i.testBit V
    · simp only [Bool.not_false]; omega
    · simp only [Bool.not_true]
  omega
end Go.Proofs.Ytaakjecnompogaa


/- Truth tables: renaming, plain. -/
namespace Go.Tk

def pv (p : List Int) (v : Nat) : Nat := (p.getD v 0).toNat
theorem pv_get {p : List Int} {v : Nat} {x : Int} (h : p[v]? = some x) : pv p v = x.toNat := by unfold pv; rw [List.getD_eq_getElem?_getD, h]; rfl
/-- a permutation of n things -/
structure PermN (n : Nat) (p : List Int) : Prop where
  len : p.length = n
  perm : IsPerm p
theorem PermN.lt {n : Nat} {p : List Int} (h : PermN n p) {v : Nat} (hv : v < n) : pv p v < n := by
  have hg : p[v]? = some p[v]! := by
    rw [List.getElem?_eq_getElem (by rw [h.len]; exact hv)]
    simp [List.getElem!_eq_getElem?_getD, List.getElem?_eq_getElem (show v < p.length by rw [h.len]; exact hv)]
  rw [pv_get hg]
  have := h.perm.1 _ (List.mem_of_getElem? hg)
  have := h.len
  omega
theorem PermN.inj {n : Nat} {p : List Int} (h : PermN n p) {u v : Nat} (hu : u < n) (hv : v < n) (he : pv p u = pv p v) : u = v := by
  have hul : u < p.length := by rw [h.len]; exact hu
  have hvl : v < p.length := by rw [h.len]; exact hv
  rw [pv_get (List.getElem?_eq_getElem hul), pv_get (List.getElem?_eq_getElem hvl)] at he
  have h1 := h.perm.1 _ (List.getElem_mem hul)
  have h2 := h.perm.1 _ (List.getElem_mem hvl)
  have hpw := List.pairwise_iff_getElem.1 (List.nodup_iff_pairwise_ne.1 h.perm.2)
  rcases Nat.lt_trichotomy u v with h3 | h3 | h3
  · exact absurd (show p[u] = p[v] by omega) (hpw u v hul hvl h3)
  · exact h3
  · exact absurd (show p[v] = p[u] by omega) (hpw v u hvl hul h3)
theorem PermN.onto {n : Nat} {p : List Int} (h : PermN n p) {t : Nat} (ht : t < n) : ∃ v, v < n ∧ pv p v = t := by
  obtain ⟨v, hv⟩ := List.getElem?_of_mem (h.perm.mem (show t < p.length by rw [h.len]; exact ht))
  exact ⟨v, by have := lt_get hv; rw [h.len] at this; exact this, by rw [pv_get hv]; omega⟩
/-- the place of the value j, after k variables -/
def sg (p : List Int) (j : Nat) : Nat → Nat
  | 0 => 0
  | k + 1 => wth (sg p j k) (pv p k) (j.testBit k)
theorem sg_bits {n : Nat} {p : List Int} (h : PermN n p) (j : Nat) : ∀ k, k ≤ n → (∀ v, v < k → (sg p j k).testBit (pv p v) = j.testBit v) ∧ (∀ t, (∀ v, v < k → pv p v ≠ t) → (sg p j k).testBit t = false)
  | 0, _ => ⟨fun v hv => by omega, fun t _ => by simp [sg]⟩
  | k + 1, hk => by
    obtain ⟨h1, h2⟩ := sg_bits h j k (by omega)
    refine ⟨fun v hv => ?_, fun t ht => ?_⟩
    · rw [sg, wth_bit]
      by_cases hvk : v = k
      · subst hvk; rw [if_pos rfl]
      · rw [if_neg (fun he => hvk (h.inj (by omega) (by omega) he)), h1 v (by omega)]
    · rw [sg, wth_bit, if_neg (fun he => ht k (by omega) he.symm)]
      exact h2 t fun v hv => ht v (by omega)
theorem sg_or {n : Nat} {p : List Int} (h : PermN n p) (j : Nat) {k : Nat} (hk : k < n) : sg p j k ||| (j / 2 ^ k % 2) * 2 ^ pv p k = sg p j (k + 1) := by
  have h0 : (sg p j k).testBit (pv p k) = false := (sg_bits h j k (by omega)).2 _ fun v hv he => by have := h.inj (by omega) hk he; omega
  have hb : j.testBit k = decide (j / 2 ^ k % 2 = 1) := by rw [Nat.testBit_eq_decide_div_mod_eq]
  rw [sg]
  refine wth_of fun t => ?_
  rw [Nat.testBit_or, hb]
  rcases Nat.mod_two_eq_zero_or_one (j / 2 ^ k) with hz | hz
  · rw [hz]
    by_cases ht : t = pv p k
    · subst ht; simp [h0]
    · simp [ht]
  · rw [hz, Nat.one_mul, Nat.testBit_two_pow]
    by_cases ht : t = pv p k
    · subst ht; simp [h0]
    · simp [ht, Ne.symm ht]
theorem sg_lt {n : Nat} {p : List Int} (h : PermN n p) (j : Nat) : ∀ k, k ≤ n → sg p j k < 2 ^ n := fun k hk => Nat.lt_pow_two_of_testBit _ fun t ht => (sg_bits h j k hk).2 t fun v hv he => by have := h.lt (v := v) (by omega); omega
/-- the value at the place i -/
def tau (n : Nat) (p : List Int) (i : Nat) : Nat := bsum (fun v => i.testBit (pv p v)) n
theorem tau_sg {n : Nat} {p : List Int} (h : PermN n p) {j : Nat} (hj : j < 2 ^ n) : tau n p (sg p j n) = j := by
  unfold tau
  rw [bsum_congr (G := fun v => j.testBit v) fun v hv => (sg_bits h j n (Nat.le_refl _)).1 v hv]
  exact bsum_of hj
theorem sg_tau {n : Nat} {p : List Int} (h : PermN n p) {i : Nat} (hi : i < 2 ^ n) : sg p (tau n p i) n = i := by
  apply Nat.eq_of_testBit_eq
  intro t
  by_cases ht : t < n
  · obtain ⟨v, hv, rfl⟩ := h.onto ht
    rw [(sg_bits h (tau n p i) n (Nat.le_refl _)).1 v hv]
    unfold tau
    rw [bsum_bit]
    simp [hv]
  · have h1 : i.testBit t = false := Nat.testBit_lt_two_pow (Nat.lt_of_lt_of_le hi (Nat.pow_le_pow_right (by omega) (by omega)))
    have h2 : (sg p (tau n p i) n).testBit t = false := Nat.testBit_lt_two_pow (Nat.lt_of_lt_of_le (sg_lt h _ n (Nat.le_refl _)) (Nat.pow_le_pow_right (by omega) (by omega)))
    rw [h1, h2]
/-- what is renamed of the values below k -/
def renP (n : Nat) (p : List Int) (ws : List Nat) (k : Nat) : Nat → Bool := fun i => decide (tau n p i < k) && vb ws (tau n p i)
def renF (n : Nat) (p : List Int) (ws : List Nat) : Nat → Bool := fun i => vb ws (tau n p i)
theorem renP_full {n : Nat} {p : List Int} {ws : List Nat} (i : Nat) : renP n p ws (2 ^ n) i = renF n p ws i := by
  unfold renP renF
  have : tau n p i < 2 ^ n := bsum_lt _ n
  simp [this]
theorem renP_zero {n : Nat} {p : List Int} {ws : List Nat} (i : Nat) : renP n p ws 0 i = false := by
  unfold renP
  simp
theorem renP_at {n : Nat} {p : List Int} {ws : List Nat} (h : PermN n p) {k : Nat} (hk : k < 2 ^ n) : renP n p ws (k + 1) (sg p k n) = vb ws k ∧ renP n p ws k (sg p k n) = false := by
  unfold renP
  rw [tau_sg h hk]
  simp
theorem renP_other {n : Nat} {p : List Int} {ws : List Nat} (h : PermN n p) {k i : Nat} (hi : i < 2 ^ n) (hne : i ≠ sg p k n) : renP n p ws (k + 1) i = renP n p ws k i := by
  unfold renP
  have : tau n p i ≠ k := fun he => hne (by rw [← he, sg_tau h hi])
  congr 1
  rw [decide_eq_decide]
  omega
theorem ren_set {n : Nat} {p : List Int} {ws : List Nat} (h : PermN n p) {k : Nat} (hk : k < 2 ^ n) : (vals (2 ^ n) (renP n p ws k)).set (sg p k n) (vb ws k) = vals (2 ^ n) (renP n p ws (k + 1)) := by
  have hs := sg_lt h k n (Nat.le_refl _)
  apply List.ext_getElem?
  intro i
  rcases Nat.lt_or_ge i (2 ^ n) with hi | hi
  · rw [List.getElem?_set, vals_len, vals_get hi, vals_get hi]
    split
    · rename_i he; subst he; simp [(renP_at h hk).1]
    · rename_i he
      rw [renP_other h hi (Ne.symm he)]
  · rw [List.getElem?_eq_none (by simp [vals_len, hi]), List.getElem?_eq_none (by rw [vals_len]; exact hi)]
theorem ren_word {n : Nat} {p : List Int} {ws : List Nat} (h : PermN n p) {k : Nat} (hk : k < 2 ^ n) : (tab n (renP n p ws k)).set (sg p k n / 64) (word n (renP n p ws k) (sg p k n / 64) ||| (if vb ws k then 1 else 0) * 2 ^ (sg p k n % 64)) = tab n (renP n p ws (k + 1)) := by
  have hs := sg_lt h k n (Nat.le_refl _)
  have hd := div_lt_nw hs
  have hm := Nat.mod_lt (sg p k n) (show 0 < 64 by omega)
  have hdm := Nat.div_add_mod (sg p k n) 64
  obtain ⟨ha1, ha0⟩ := renP_at (ws := ws) h hk
  have hoth := fun i (hi : i < 2 ^ n) (hne : i ≠ sg p k n) => renP_other (ws := ws) h hi hne
  generalize sg p k n = s at *
  generalize renP n p ws (k + 1) = G at *
  generalize renP n p ws k = F at *
  apply List.ext_getElem?
  intro q
  rcases Nat.lt_or_ge q (nw n) with hq | hq
  · rw [List.getElem?_set, tab_len, tab_get hq, tab_get hq]
    split
    · rename_i he
      subst he
      congr 1
      apply Nat.eq_of_testBit_eq
      intro j
      by_cases hj : j < 64
      · rw [Nat.testBit_or, word_bit _ _ _ hj, word_bit _ _ _ hj]
        by_cases hjs : j = s % 64
        · subst hjs
          rw [hdm, ha1, ha0]
          cases vb ws k <;> simp [hs]
        · have hb : ((if vb ws k then 1 else 0) * 2 ^ (s % 64)).testBit j = false := by
            cases vb ws k
            · simp
            · simp only [if_true, Nat.one_mul, Nat.testBit_two_pow]
              simp [Ne.symm hjs]
          rw [hb, Bool.or_false]
          by_cases hlt : 64 * (s / 64) + j < 2 ^ n
          · rw [hoth _ hlt (by omega)]
          · simp [hlt]
      · have h1 : (word n G (s / 64)).testBit j = false := Nat.testBit_lt_two_pow (Nat.lt_of_lt_of_le (word_lt _ _ _) (Nat.pow_le_pow_right (show 0 < 2 by omega) (show 64 ≤ j by omega)))
        have h2 : (word n F (s / 64)).testBit j = false := Nat.testBit_lt_two_pow (Nat.lt_of_lt_of_le (word_lt _ _ _) (Nat.pow_le_pow_right (show 0 < 2 by omega) (show 64 ≤ j by omega)))
        have h3 : ((if vb ws k then 1 else 0) * 2 ^ (s % 64)).testBit j = false := by
          cases vb ws k
          · simp
          · simp only [if_true, Nat.one_mul, Nat.testBit_two_pow]
            simp
            omega
        rw [Nat.testBit_or, h1, h2, h3]
        rfl
    · rename_i he
      refine congrArg some (word_congr' fun j hj hlt => ?_)
      exact (hoth _ hlt (by omega)).symm
  · rw [List.getElem?_eq_none (by simp [tab_len, hq]), List.getElem?_eq_none (by rw [tab_len]; exact hq)]
end Go.Tk


/- WholeTruth: plain. -/
namespace Go.Proofs.Ytaakjecnompogaa
open Go.RowKit Go.Tk

/-- a word of the table that is laid out of any words -/
def tblW (n : Nat) (us : List Nat) (i : Nat) : Nat := (us.getD (i % us.length) 0) % (if n < 6 then 2 ^ 2 ^ n else 18446744073709551616)
def tabW (n : Nat) (us : List Nat) : List Nat := (List.range (nw n)).map (tblW n us)
theorem tabW_len (n : Nat) (us : List Nat) : (tabW n us).length = nw n := by simp [tabW]
theorem tabW_get {n : Nat} {us : List Nat} {k : Nat} (h : k < nw n) : (tabW n us)[k]? = some (tblW n us k) := by simp [tabW, h]
theorem tblW_lt (n : Nat) (us : List Nat) (i : Nat) : tblW n us i < 18446744073709551616 := by
  unfold tblW
  by_cases h : n < 6
  · rw [if_pos h]
    have h1 : 2 ^ n ≤ 2 ^ 5 := Nat.pow_le_pow_right (by omega) (by omega)
    have h2 : (2 : Nat) ^ 2 ^ n ≤ 2 ^ 32 := Nat.pow_le_pow_right (by omega) (by omega)
    exact Nat.lt_of_lt_of_le (Nat.mod_lt _ (Nat.pow_pos (by omega))) (by omega)
  · rw [if_neg h]; exact Nat.mod_lt _ (by omega)
theorem tabW_small (n : Nat) (us : List Nat) : Small (tabW n us) := fun x hx => by
  obtain ⟨k, _, rfl⟩ := List.mem_map.1 hx
  exact tblW_lt n us k
theorem tabW_form {n : Nat} (hn : n ≤ 16) (us : List Nat) : FormN n (tabW n us) := by
  refine ⟨hn, tabW_len n us, fun h6 => ?_⟩
  rw [List.getD_eq_getElem?_getD, tabW_get (nw_pos n), Option.getD_some]
  unfold tblW
  rw [if_pos h6]
  exact Nat.mod_lt _ (Nat.pow_pos (by omega))
theorem or_comm_tab {n V : Nat} {ws : List Nat} : tab n (binF 14 (tab n (hfF V false ws)) (tab n (hfF V true ws))) = tab n (exF V ws) := tab_congr fun i hi => by
  unfold binF exF
  rw [vb_tab hi, vb_tab hi]
  cases hfF V true ws i <;> cases hfF V false ws i <;> decide
theorem sm_comm (n m : Int) (a b : List Nat) : sm n m a b = sm m n b a := by
  unfold sm
  by_cases h : a = b
  · subst h; by_cases h2 : n = m
    · subst h2; rfl
    · have := Ne.symm h2; simp [h2, this]
  · have h3 : ¬ b = a := fun e => h e.symm
    simp [h, h3]
theorem ren_at {n : Nat} {p : List Int} {ws : List Nat} (h : PermN n p) {x : Nat} (hx : x < 2 ^ n) : vb (tab n (renF n p ws)) (sg p x n) = vb ws x := by
  rw [vb_tab (sg_lt h x n (Nat.le_refl _))]
  unfold renF
  rw [tau_sg h hx]
/-- the bit of an operation -/
def bitO (op : Nat) (p q : Bool) : Bool := op.testBit ((if p then 2 else 0) + (if q then 1 else 0))
theorem bin_at {n op : Nat} {a b : List Nat} {x : Nat} (hx : x < 2 ^ n) : vb (tab n (binF op a b)) x = bitO op (vb a x) (vb b x) := by
  rw [vb_tab hx]; rfl
end Go.Proofs.Ytaakjecnompogaa


/- WholeTruth: sameTable, bit. -/
namespace Go.Proofs.Ytaakjecnompogaa
open Go.RowKit Go.Tk

set_option maxRecDepth 100000 in
set_option maxHeartbeats 4000000 in
theorem sameTable_any (Na : Int) (Aa : Option Addr) (La Ca : Nat) (wsa : List Nat) (Nb : Int) (Ab : Option Addr) (Lb Cb : Nat) (wsb : List Nat) (w : World) (ha : WL w Aa La wsa) (hb : WL w Ab Lb wsb) (hbd : La ≤ 1000000000000000000) :
    Calls Try.prog 26 #[.agg #[.int .i64 Na, .slice Aa La Ca], .agg #[.int .i64 Nb, .slice Ab Lb Cb]] w fun e w' => e = .returned (.bool (sm Na Nb wsa wsb)) ∧ Same w w' := by
  have hla := ha.len
  have hlb := hb.len
  obtain ⟨r, hr⟩ : ∃ r, sm Na Nb wsa wsb = r := ⟨_, rfl⟩
  rw [hr]
  have HA := Lib.hid ha
  have HB := Lib.hid hb
  by_cases h1 : Na = Nb
  · by_cases h2 : La = Lb
    · subst h1 h2
      have HR := Lib.hid hr
      have HLA := Lib.hid hla
      have HLB := Lib.hid hlb
      clear hr hla hlb ha hb
      go_enter Try.func26, Try.ntmps26
      go_upto_region 1 with fail
      refine wp_world fun w1 hw1 => ?_
      have hs1 : Same w w1 := by rw [hw1]; exact ((Frm.refl _ _).alloc _).alloc _
      have hBXa : Blk w1 (w.heap.size) 26 #[.int .i64 Na, .slice Aa La Ca] := by
        rw [hw1]
        have := ((Blk.new w 26 #[.int .i64 Na, .slice Aa La Ca]).alloc (.cells #[.int .i64 Na, .slice Ab La Cb] 26))
        simpa using this
      have hBXb : Blk w1 (w.heap.size + 1) 26 #[.int .i64 Na, .slice Ab La Cb] := by
        rw [hw1]
        have := (Blk.new (w.alloc (.cells #[.int .i64 Na, .slice Aa La Ca] 26)) 26 #[.int .i64 Na, .slice Ab La Cb])
        simpa using this
      clear hw1
      obtain ⟨Xb, hXb⟩ : ∃ b, w.heap.size + 1 = b := ⟨_, rfl⟩
      rw [hXb] at hBXb ⊢
      have leXb : w.heap.size ≤ Xb := by omega
      have neXaXb : w.heap.size ≠ Xb := by omega
      clear hXb
      have cXa0 : w1.cell? ⟨w.heap.size, 0, none⟩ = some (.int .i64 Na) := hBXa.cell 0
      have cXa1 : w1.cell? ⟨w.heap.size, 1, none⟩ = some (.slice Aa La Ca) := hBXa.cell 1
      have lXa := hBXa.lt
      have fXa0 := hBXa.free 0
      have fXa1 := hBXa.free 1
      have HBXa := Lib.hid hBXa
      have cXb0 : w1.cell? ⟨Xb, 0, none⟩ = some (.int .i64 Na) := hBXb.cell 0
      have cXb1 : w1.cell? ⟨Xb, 1, none⟩ = some (.slice Ab La Cb) := hBXb.cell 1
      have lXb := hBXb.lt
      have fXb0 := hBXb.free 0
      have fXb1 := hBXb.free 1
      have HBXb := Lib.hid hBXb
      have HS1 := Lib.hid hs1
      clear hs1 hBXa hBXb
      have HS := Lib.hid HS1.out
      have HBa := Lib.hid HBXa.out
      have HBb := Lib.hid HBXb.out
      go_wp2
      go_loopw [5] (fun i wr => ∃ k : Nat, k ≤ La ∧ i = .int .i64 k ∧ (∀ j x y, wsa[j]? = some x → wsb[j]? = some y → j < k → x = y) ∧ Same w1 wr) (fun i _ => La - (intOf i).toNat)
      case atStart => exact ⟨0, by omega, rfl, fun j x y _ _ h => by omega, Frm.refl _ _⟩
      case round =>
        obtain ⟨k, hk, rfl, hall, hs⟩ := hrel
        have HALL := Lib.hid hall
        have HSR := Lib.hid hs
        clear hall
        by_cases hlt : k < La
        · have hk0 : (0 : Int) ≤ k := by omega
          have hk1 : (k : Int) < La := by omega
          obtain ⟨x, hx⟩ : ∃ x, wsa[k]? = some x := ⟨_, List.getElem?_eq_getElem (by rw [← HLA.out]; exact hlt)⟩
          obtain ⟨y, hy⟩ : ∃ x, wsb[k]? = some x := ⟨_, List.getElem?_eq_getElem (by rw [← HLB.out]; exact hlt)⟩
          obtain ⟨ba, offa, hAa, hbla, hca⟩ := WL.at1 (Sl.same (Sl.same HA.out HS.out) hs) hx
          obtain ⟨bb, offb, hAb, hblb, hcb⟩ := WL.at1 (Sl.same (Sl.same HB.out HS.out) hs) hy
          subst hAa hAb
          have HX := Lib.hid hx
          have HY := Lib.hid hy
          have dXa1 : wr.cell? ⟨w.heap.size, 1, none⟩ = some (.slice (some ⟨ba, offa, none⟩) La Ca) := (HBa.out.frm hs id).cell 1
          have dXb1 : wr.cell? ⟨Xb, 1, none⟩ = some (.slice (some ⟨bb, offb, none⟩) La Cb) := (HBb.out.frm hs id).cell 1
          have mXa := (HBa.out.frm hs id).lt
          have mXb := (HBb.out.frm hs id).lt
          clear hx hy hs cXa1 cXb1 lXa lXb
          by_cases hxy : x = y
          · subst hxy
            have hbq : ((x : Int) != (x : Int)) = false := by simp
            go_upto_region 6 with fail
            refine wp_quiet (by kernel_rfl) (by kernel_rfl) ?_
            repeat (any_goals (first | go_big_quiet_step (fail) | quiet_step (fail)))
            refine wpQuiet_nil ?_
            rintro wq ⟨q, hq⟩
            have hsq : Same wr wq := by rw [hq]; exact more_same _ q
            clear hq
            go_wp2
            go_roundw
            case rel => exact ⟨k + 1, by omega, by go_num, fun j x' y' hx' hy' hj => by
              by_cases hjk : j < k
              · exact HALL.out j x' y' hx' hy' hjk
              · obtain rfl : j = k := by omega
                exact (Option.some.inj (hx'.symm.trans HX.out)).trans (Option.some.inj (hy'.symm.trans HY.out)).symm, HSR.out.trans hsq (fun _ _ h => h)⟩
            case measure => simp [intOf]; omega
          · have hf : r = false := by
              rw [← HR.out]
              unfold sm
              rw [decide_eq_false_iff_not]
              rintro ⟨_, hw⟩
              rw [hw] at HX
              exact hxy (Option.some.inj (HX.out.symm.trans HY.out))
            subst hf
            have hxi : (x : Int) ≠ y := by omega
            go_upto_region 6 with fail
            refine wp_quiet (by kernel_rfl) (by kernel_rfl) ?_
            repeat (any_goals (first | go_big_quiet_step (fail) | quiet_step (fail)))
            refine wpQuiet_nil ?_
            rintro wq ⟨q, hq⟩
            have hsq : Same wr wq := by rw [hq]; exact more_same _ q
            clear hq
            go_wp2
            go_ret
            exact ⟨rfl, (HS.out.trans HSR.out (fun _ _ h => h)).trans hsq (fun _ _ h => h)⟩
        · obtain rfl : k = La := by omega
          have hf : r = true := by
            rw [← HR.out]
            unfold sm
            rw [decide_eq_true_eq]
            refine ⟨rfl, List.ext_getElem? fun j => ?_⟩
            by_cases hj : j < k
            · obtain ⟨x, hx⟩ : ∃ x, wsa[j]? = some x := ⟨_, List.getElem?_eq_getElem (by rw [← HLA.out]; exact hj)⟩
              obtain ⟨y, hy⟩ : ∃ x, wsb[j]? = some x := ⟨_, List.getElem?_eq_getElem (by rw [← HLB.out]; exact hj)⟩
              rw [hx, hy, HALL.out j x y hx hy hj]
            · rw [List.getElem?_eq_none (by rw [← HLA.out]; omega), List.getElem?_eq_none (by rw [← HLB.out]; omega)]
          subst hf
          have dXa1 : wr.cell? ⟨w.heap.size, 1, none⟩ = some (.slice Aa k Ca) := (HBa.out.frm hs id).cell 1
          have mXa := (HBa.out.frm hs id).lt
          clear hs cXa1 lXa
          go_wp2
          go_ret
          exact ⟨rfl, HS.out.trans HSR.out (fun _ _ h => h)⟩
    · have hf : r = false := by
        rw [← hr]
        unfold sm
        rw [decide_eq_false_iff_not]
        rintro ⟨_, hw⟩
        rw [hw] at hla
        omega
      subst h1 hf
      have h3 : (La : Int) ≠ Lb := by omega
      clear hr hla hlb ha hb
      go_enter Try.func26, Try.ntmps26
      go_upto_region 1 with fail
      refine wp_world fun w1 hw1 => ?_
      have hs1 : Same w w1 := by rw [hw1]; exact ((Frm.refl _ _).alloc _).alloc _
      have hBXa : Blk w1 (w.heap.size) 26 #[.int .i64 Na, .slice Aa La Ca] := by
        rw [hw1]
        have := ((Blk.new w 26 #[.int .i64 Na, .slice Aa La Ca]).alloc (.cells #[.int .i64 Na, .slice Ab Lb Cb] 26))
        simpa using this
      have hBXb : Blk w1 (w.heap.size + 1) 26 #[.int .i64 Na, .slice Ab Lb Cb] := by
        rw [hw1]
        have := (Blk.new (w.alloc (.cells #[.int .i64 Na, .slice Aa La Ca] 26)) 26 #[.int .i64 Na, .slice Ab Lb Cb])
        simpa using this
      clear hw1
      obtain ⟨Xb, hXb⟩ : ∃ b, w.heap.size + 1 = b := ⟨_, rfl⟩
      rw [hXb] at hBXb ⊢
      have leXb : w.heap.size ≤ Xb := by omega
      have neXaXb : w.heap.size ≠ Xb := by omega
      clear hXb
      have cXa0 : w1.cell? ⟨w.heap.size, 0, none⟩ = some (.int .i64 Na) := hBXa.cell 0
      have cXa1 : w1.cell? ⟨w.heap.size, 1, none⟩ = some (.slice Aa La Ca) := hBXa.cell 1
      have lXa := hBXa.lt
      have fXa0 := hBXa.free 0
      have fXa1 := hBXa.free 1
      have HBXa := Lib.hid hBXa
      have cXb0 : w1.cell? ⟨Xb, 0, none⟩ = some (.int .i64 Na) := hBXb.cell 0
      have cXb1 : w1.cell? ⟨Xb, 1, none⟩ = some (.slice Ab Lb Cb) := hBXb.cell 1
      have lXb := hBXb.lt
      have fXb0 := hBXb.free 0
      have fXb1 := hBXb.free 1
      have HBXb := Lib.hid hBXb
      have HS1 := Lib.hid hs1
      clear hs1 hBXa hBXb
      go_wp2
      go_ret
      exact ⟨rfl, HS1.out⟩
  · have hf : r = false := by
      rw [← hr]
      unfold sm
      rw [decide_eq_false_iff_not]
      exact fun h => h1 h.1
    subst hf
    clear hr hla hlb ha hb
    go_enter Try.func26, Try.ntmps26
    go_upto_region 1 with fail
    refine wp_world fun w1 hw1 => ?_
    have hs1 : Same w w1 := by rw [hw1]; exact ((Frm.refl _ _).alloc _).alloc _
    have hBXa : Blk w1 (w.heap.size) 26 #[.int .i64 Na, .slice Aa La Ca] := by
      rw [hw1]
      have := ((Blk.new w 26 #[.int .i64 Na, .slice Aa La Ca]).alloc (.cells #[.int .i64 Nb, .slice Ab Lb Cb] 26))
      simpa using this
    have hBXb : Blk w1 (w.heap.size + 1) 26 #[.int .i64 Nb, .slice Ab Lb Cb] := by
      rw [hw1]
      have := (Blk.new (w.alloc (.cells #[.int .i64 Na, .slice Aa La Ca] 26)) 26 #[.int .i64 Nb, .slice Ab Lb Cb])
      simpa using this
    clear hw1
    obtain ⟨Xb, hXb⟩ : ∃ b, w.heap.size + 1 = b := ⟨_, rfl⟩
    rw [hXb] at hBXb ⊢
    have leXb : w.heap.size ≤ Xb := by omega
    have neXaXb : w.heap.size ≠ Xb := by omega
    clear hXb
    have cXa0 : w1.cell? ⟨w.heap.size, 0, none⟩ = some (.int .i64 Na) := hBXa.cell 0
    have cXa1 : w1.cell? ⟨w.heap.size, 1, none⟩ = some (.slice Aa La Ca) := hBXa.cell 1
    have lXa := hBXa.lt
    have fXa0 := hBXa.free 0
    have fXa1 := hBXa.free 1
    have HBXa := Lib.hid hBXa
    have cXb0 : w1.cell? ⟨Xb, 0, none⟩ = some (.int .i64 Nb) := hBXb.cell 0
    have cXb1 : w1.cell? ⟨Xb, 1, none⟩ = some (.slice Ab Lb Cb) := hBXb.cell 1
    have lXb := hBXb.lt
    have fXb0 := hBXb.free 0
    have fXb1 := hBXb.free 1
    have HBXb := Lib.hid hBXb
    have HS1 := Lib.hid hs1
    clear hs1 hBXa hBXb
    go_wp2
    go_ret
    exact ⟨rfl, HS1.out⟩

theorem bit8 {op : Nat} (h : op ≤ 15) : (bits .and .u8 (op : Int) 1 == 1) = op.testBit 0 ∧ (bits .and .u8 ((op : Int) / 2) 1 == 1) = op.testBit 1 ∧ (bits .and .u8 ((op : Int) / 4) 1 == 1) = op.testBit 2 ∧ (bits .and .u8 ((op : Int) / 8) 1 == 1) = op.testBit 3 :=
  (show ∀ o : Fin 16, (bits .and .u8 ((o : Nat) : Int) 1 == 1) = (o : Nat).testBit 0 ∧ (bits .and .u8 (((o : Nat) : Int) / 2) 1 == 1) = (o : Nat).testBit 1 ∧ (bits .and .u8 (((o : Nat) : Int) / 4) 1 == 1) = (o : Nat).testBit 2 ∧ (bits .and .u8 (((o : Nat) : Int) / 8) 1 == 1) = (o : Nat).testBit 3 by decide) ⟨op, by omega⟩
set_option maxRecDepth 100000 in
set_option maxHeartbeats 16000000 in
theorem bit_any' (op : Nat) (p q : Bool) (w : World) (h : op ≤ 15) : Calls Try.prog 8 #[.int .u8 op, .bool p, .bool q] w fun e w' => e = .returned (.bool (bitO op p q)) ∧ Same w w' := by
  obtain ⟨b0, b1, b2, b3⟩ := bit8 h
  cases p <;> cases q
  · have hr : bitO op false false = op.testBit 0 := rfl
    rw [hr]
    clear hr
    go_enter Try.func8, Try.ntmps8
    go_wp2
    go_ret
    exact ⟨by rw [Nat.testBit_zero]; rfl, Frm.refl _ _⟩
  · have hr : bitO op false true = op.testBit 1 := rfl
    rw [hr]
    clear hr
    go_enter Try.func8, Try.ntmps8
    go_wp2
    go_ret
    exact ⟨by rw [← b1]; rfl, Frm.refl _ _⟩
  · have hr : bitO op true false = op.testBit 2 := rfl
    rw [hr]
    clear hr
    go_enter Try.func8, Try.ntmps8
    go_wp2
    go_ret
    exact ⟨by rw [← b2]; rfl, Frm.refl _ _⟩
  · have hr : bitO op true true = op.testBit 3 := rfl
    rw [hr]
    clear hr
    go_enter Try.func8, Try.ntmps8
    go_wp2
    go_ret
    exact ⟨by rw [← b3]; rfl, Frm.refl _ _⟩
end Go.Proofs.Ytaakjecnompogaa


/- Truth tables: TruthShannon: the walk. -/
namespace Go.Proofs.Ytaakjecnompogaa
open Go.RowKit Go.Tk

/-- a table that lies in a block -/
structure Tv (w : World) (T : Nat) (n : Int) (A : Option Addr) (C : Nat) (ws : List Nat) : Prop where
  blk : Blk w T 26 #[.int .i64 n, .slice A ws.length C]
  wl : WL w A ws.length ws
theorem Tv.same {w w' : World} {T : Nat} {n : Int} {A : Option Addr} {C : Nat} {ws : List Nat} (h : Tv w T n A C ws) (hs : Same w w') : Tv w' T n A C ws := ⟨h.blk.frm hs id, Sl.same h.wl hs⟩
theorem Tv.make {w w' : World} {n : Int} {A : Option Addr} {C : Nat} {ws : List Nat} (h : WL w A ws.length ws) (hw : w' = w.alloc (.cells #[.int .i64 n, .slice A ws.length C] 26)) : Tv w' w.heap.size n A C ws ∧ Same w w' := by
  subst hw
  have hs : Same w (w.alloc (.cells #[.int .i64 n, .slice A ws.length C] 26)) := (Frm.refl _ _).alloc _
  exact ⟨⟨Blk.new w _ _, Sl.same h hs⟩, hs⟩
theorem sup_bit {n V : Nat} {ws : List Nat} (hV : V < n) : (bsum (depB n ws) n).testBit V = !sm n n (tab n (hfF V true ws)) (tab n (hfF V false ws)) := by
  rw [bsum_bit, decide_eq_true hV, Bool.true_and]
  unfold depB sm
  generalize tab n (hfF V true ws) = a
  generalize tab n (hfF V false ws) = b
  by_cases he : a = b
  · subst he; simp
  · have he2 : ¬ b = a := fun h => he h.symm
    simp [he, he2]
theorem tab_small (n : Nat) (F : Nat → Bool) : Small (tab n F) := fun x hx => tab_lt x hx
end Go.Proofs.Ytaakjecnompogaa


/- WholeTruth: expands. -/
namespace Go.Proofs.Ytaakjecnompogaa
open Go.RowKit Go.Tk

set_option maxRecDepth 100000 in
set_option maxHeartbeats 16000000 in
theorem expands_any (n V : Nat) (Aa : Option Addr) (Ca : Nat) (ws : List Nat) (w : World) (hform : FormN n ws) (hsm : Small ws) (hV : V < n) (h : WL w Aa ws.length ws) : Calls Try.prog 11 #[.int .i64 n, .agg #[.int .i64 n, .slice Aa ws.length Ca], .int .i64 V, .bool ((bsum (depB n ws) n).testBit V)] w fun e w' => e = .returned (.bool true) ∧ Same w w' := by
  have H := Lib.hid h
  clear h
  have hfr := frm_nat.2 hform
  have hn := hform.n16
  have hoe : ofE n V ws = 0 := by unfold ofE; rw [hfr, if_pos rfl, if_neg (by omega)]
  have hve : varE n V = 0 := by unfold varE; rw [show cntE n = 0 by unfold cntE; rw [if_neg (by omega), if_neg (by omega)], if_neg (by simp), if_neg (by omega)]
  have hC := fun b A C w h => Cofactor_any n A C ws V b w h
  have hE := fun A C w h => Exists_any n A C ws V w h
  have hX := fun w => Var_any n V w
  have hI := fun A1 C1 A2 C2 A3 C3 w h1 h2 h3 => Ite_any n A1 C1 (tab n (varF V)) n A2 C2 (tab n (hfF V true ws)) n A3 C3 (tab n (hfF V false ws)) w h1 h2 h3
  have hB := fun A1 C1 A2 C2 w h1 h2 => Binary_any 14 n A1 C1 (tab n (hfF V false ws)) n A2 C2 (tab n (hfF V true ws)) w (by omega) h1 h2
  have hft : ∀ (F : Nat → Bool), frm n (tab n F) = true := fun F => frm_nat.2 (tab_form hn)
  simp only [hoe] at hC hE
  rw [hve] at hX
  have hfm : ∀ (A1 A2 A3 : Option Addr) (C1 C2 C3 : Nat), fm [⟨n, A1, C1, tab n (varF V)⟩, ⟨n, A2, C2, tab n (hfF V true ws)⟩, ⟨n, A3, C3, tab n (hfF V false ws)⟩] = true := fun _ _ _ _ _ _ => by simp [fm, Tb.frm, hft]
  have hfm2 : ∀ (A1 A2 : Option Addr) (C1 C2 : Nat), binE 14 (fm [⟨n, A1, C1, tab n (hfF V false ws)⟩, ⟨n, A2, C2, tab n (hfF V true ws)⟩]) = 0 := fun _ _ _ _ => by simp [fm, Tb.frm, hft, binE, fmE]
  simp only [hfm, show fmE true = 0 from rfl] at hI
  simp only [hfm2] at hB
  unfold RetA at hC hE hX hI hB
  have hCt := hC true
  have hCf := hC false
  rw [show ansN n 0 = n from rfl] at hX
  simp only [show ansN n 0 = n from rfl] at hCt hCf hI hE hB
  simp only [show ansL (tab (n : Int).toNat (exF (V : Int).toNat ws)) 0 = tab n (exF V ws) from rfl] at hE
  rw [show ansL (tab (n : Int).toNat (varF (V : Int).toNat)) 0 = tab n (varF V) from rfl] at hX
  simp only [show ansL (tab (n : Int).toNat (hfF (V : Int).toNat true ws)) 0 = tab n (hfF V true ws) from rfl] at hCt
  simp only [show ansL (tab (n : Int).toNat (hfF (V : Int).toNat false ws)) 0 = tab n (hfF V false ws) from rfl] at hCf
  simp only [show ansL (tab (n : Int).toNat (iteF (tab n (varF V)) (tab n (hfF V true ws)) (tab n (hfF V false ws)))) 0 = tab n (iteF (tab n (varF V)) (tab n (hfF V true ws)) (tab n (hfF V false ws))) from rfl, shan_ite hform hsm] at hI
  simp only [show ansL (tab (n : Int).toNat (binF 14 (tab n (hfF V false ws)) (tab n (hfF V true ws)))) 0 = tab n (binF 14 (tab n (hfF V false ws)) (tab n (hfF V true ws))) from rfl, or_comm_tab] at hB
  have lla : ws.length ≤ 1000000000000000000 := by rw [hform.len]; have := nw_le hn; omega
  have q1 := fun A1 C1 A2 C2 w h1 h2 => sameTable_any n A1 ws.length C1 ws n A2 ws.length C2 ws w h1 h2 lla
  have q2 := fun A1 C1 A2 C2 w h1 h2 => sameTable_any n A1 (tab n (exF V ws)).length C1 (tab n (exF V ws)) n A2 (tab n (exF V ws)).length C2 (tab n (exF V ws)) w h1 h2 (tab_len_le hn)
  have q3 := fun A1 C1 A2 C2 w h1 h2 => sameTable_any n A1 (tab n (hfF V false ws)).length C1 (tab n (hfF V false ws)) n A2 (tab n (hfF V true ws)).length C2 (tab n (hfF V true ws)) w h1 h2 (tab_len_le hn)
  simp only [sm_self] at q1 q2
  have hdep : (bsum (depB n ws) n).testBit V = !sm n n (tab n (hfF V false ws)) (tab n (hfF V true ws)) := by rw [sup_bit hV, sm_comm]
  have sx := tab_small n (varF V)
  have st := tab_small n (hfF V true ws)
  have sf := tab_small n (hfF V false ws)
  have se := tab_small n (exF V ws)
  rw [hdep]
  generalize tab n (hfF V true ws) = wo at *
  generalize tab n (hfF V false ws) = wz at *
  generalize tab n (exF V ws) = we at *
  generalize tab n (varF V) = wx at *
  generalize sm n n wz wo = r at *
  have HCT := Lib.hid hCt
  have HCF := Lib.hid hCf
  have HE := Lib.hid hE
  have HX := Lib.hid hX
  have HI := Lib.hid hI
  have HB := Lib.hid hB
  have Q1 := Lib.hid q1
  have Q2 := Lib.hid q2
  have Q3 := Lib.hid q3
  have SX := Lib.hid sx
  have ST := Lib.hid st
  have SF := Lib.hid sf
  have SE := Lib.hid se
  have SW := Lib.hid hsm
  clear hfr hform hsm hoe hve hC hCt hCf hE hX hI hB hft hfm hfm2 lla q1 q2 q3 hdep sx st sf se hn
  go_enter Try.func11, Try.ntmps11
  go_upto_region 1 with fail
  refine wp_world fun w1 hw1 => ?_
  obtain ⟨hqX, hs1⟩ := Tv.make H.out hw1
  have HS1 := Lib.hid hs1
  clear hw1 hs1
  have cX0 : w1.cell? ⟨w.heap.size, 0, none⟩ = some (.int .i64 n) := hqX.blk.cell 0
  have cX1 : w1.cell? ⟨w.heap.size, 1, none⟩ = some (.slice Aa ws.length Ca) := hqX.blk.cell 1
  have lX := hqX.blk.lt
  go_wp2_with (fail)
  refine (HX.out w1).mono ?_
  rintro e u1 ⟨Ax, Cx, rfl, hN⟩
  clear cX0 cX1 lX
  have hs := hN.2.2
  have ho := hN.1.sl ucell_len
  clear hN
  replace HS1 := Lib.hid (HS1.out.trans hs (fun _ _ h => h))
  replace hqX := hqX.same hs
  clear hs
  have cX0 : u1.cell? ⟨w.heap.size, 0, none⟩ = some (.int .i64 n) := hqX.blk.cell 0
  have cX1 : u1.cell? ⟨w.heap.size, 1, none⟩ = some (.slice Aa ws.length Ca) := hqX.blk.cell 1
  have lX := hqX.blk.lt
  go_wp2_with (fail)
  refine call_world fun b2 hb2 => ?_
  obtain ⟨hqn, hsv⟩ := Tv.make ho hb2
  clear cX0 cX1 lX
  replace HS1 := Lib.hid (HS1.out.trans hsv (fun _ _ h => h))
  replace hqX := hqX.same hsv
  obtain ⟨Tx, hTe⟩ : ∃ b, u1.heap.size = b := ⟨_, rfl⟩
  rw [hTe] at hqn ⊢
  have hqx := hqn
  clear hqn hb2 hsv hTe ho
  refine (HCF.out Aa Ca b2 ⟨hqX.wl, SW.out⟩).mono ?_
  rintro e u3 ⟨Az, Cz, rfl, hN⟩
  have hs := hN.2.2
  have ho := hN.1.sl ucell_len
  clear hN
  replace HS1 := Lib.hid (HS1.out.trans hs (fun _ _ h => h))
  replace hqX := hqX.same hs
  replace hqx := hqx.same hs
  clear hs
  have cX0 : u3.cell? ⟨w.heap.size, 0, none⟩ = some (.int .i64 n) := hqX.blk.cell 0
  have cX1 : u3.cell? ⟨w.heap.size, 1, none⟩ = some (.slice Aa ws.length Ca) := hqX.blk.cell 1
  have lX := hqX.blk.lt
  go_wp2_with (fail)
  refine call_world fun b4 hb4 => ?_
  obtain ⟨hqn, hsv⟩ := Tv.make ho hb4
  clear cX0 cX1 lX
  replace HS1 := Lib.hid (HS1.out.trans hsv (fun _ _ h => h))
  replace hqX := hqX.same hsv
  replace hqx := hqx.same hsv
  obtain ⟨Tz, hTe⟩ : ∃ b, u3.heap.size = b := ⟨_, rfl⟩
  rw [hTe] at hqn ⊢
  have hqz := hqn
  clear hqn hb4 hsv hTe ho
  refine (HCT.out Aa Ca b4 ⟨hqX.wl, SW.out⟩).mono ?_
  rintro e u5 ⟨Ao, Co, rfl, hN⟩
  have hs := hN.2.2
  have ho := hN.1.sl ucell_len
  clear hN
  replace HS1 := Lib.hid (HS1.out.trans hs (fun _ _ h => h))
  replace hqX := hqX.same hs
  replace hqx := hqx.same hs
  replace hqz := hqz.same hs
  clear hs
  have cx0 : u5.cell? ⟨Tx, 0, none⟩ = some (.int .i64 n) := hqx.blk.cell 0
  have cx1 : u5.cell? ⟨Tx, 1, none⟩ = some (.slice Ax wx.length Cx) := hqx.blk.cell 1
  have lx := hqx.blk.lt
  have cz0 : u5.cell? ⟨Tz, 0, none⟩ = some (.int .i64 n) := hqz.blk.cell 0
  have cz1 : u5.cell? ⟨Tz, 1, none⟩ = some (.slice Az wz.length Cz) := hqz.blk.cell 1
  have lz := hqz.blk.lt
  go_wp2_with (fail)
  refine call_world fun b6 hb6 => ?_
  obtain ⟨hqn, hsv⟩ := Tv.make ho hb6
  clear cx0 cx1 lx cz0 cz1 lz
  replace HS1 := Lib.hid (HS1.out.trans hsv (fun _ _ h => h))
  replace hqX := hqX.same hsv
  replace hqx := hqx.same hsv
  replace hqz := hqz.same hsv
  obtain ⟨To, hTe⟩ : ∃ b, u5.heap.size = b := ⟨_, rfl⟩
  rw [hTe] at hqn ⊢
  have hqo := hqn
  clear hqn hb6 hsv hTe ho
  refine (HI.out Ax Cx Ao Co Az Cz b6 ⟨hqx.wl, SX.out⟩ ⟨hqo.wl, ST.out⟩ ⟨hqz.wl, SF.out⟩).mono ?_
  rintro e u7 ⟨Ag, Cg, rfl, hN⟩
  have hs := hN.2.2
  have ho := hN.1.sl ucell_len
  clear hN
  replace HS1 := Lib.hid (HS1.out.trans hs (fun _ _ h => h))
  replace hqX := hqX.same hs
  replace hqx := hqx.same hs
  replace hqz := hqz.same hs
  replace hqo := hqo.same hs
  clear hs
  have cX0 : u7.cell? ⟨w.heap.size, 0, none⟩ = some (.int .i64 n) := hqX.blk.cell 0
  have cX1 : u7.cell? ⟨w.heap.size, 1, none⟩ = some (.slice Aa ws.length Ca) := hqX.blk.cell 1
  have lX := hqX.blk.lt
  go_wp2_with (fail)
  refine call_world fun b8 hb8 => ?_
  obtain ⟨hqn, hsv⟩ := Tv.make ho hb8
  clear cX0 cX1 lX
  replace HS1 := Lib.hid (HS1.out.trans hsv (fun _ _ h => h))
  replace hqX := hqX.same hsv
  replace hqx := hqx.same hsv
  replace hqz := hqz.same hsv
  replace hqo := hqo.same hsv
  obtain ⟨Tg, hTe⟩ : ∃ b, u7.heap.size = b := ⟨_, rfl⟩
  rw [hTe] at hqn ⊢
  have hqg := hqn
  clear hqn hb8 hsv hTe ho
  refine (HE.out Aa Ca b8 ⟨hqX.wl, SW.out⟩).mono ?_
  rintro e u9 ⟨Ae, Ce, rfl, hN⟩
  have hs := hN.2.2
  have ho := hN.1.sl ucell_len
  clear hN
  replace HS1 := Lib.hid (HS1.out.trans hs (fun _ _ h => h))
  replace hqX := hqX.same hs
  replace hqx := hqx.same hs
  replace hqz := hqz.same hs
  replace hqo := hqo.same hs
  replace hqg := hqg.same hs
  clear hs
  have cz0 : u9.cell? ⟨Tz, 0, none⟩ = some (.int .i64 n) := hqz.blk.cell 0
  have cz1 : u9.cell? ⟨Tz, 1, none⟩ = some (.slice Az wz.length Cz) := hqz.blk.cell 1
  have lz := hqz.blk.lt
  have co0 : u9.cell? ⟨To, 0, none⟩ = some (.int .i64 n) := hqo.blk.cell 0
  have co1 : u9.cell? ⟨To, 1, none⟩ = some (.slice Ao wo.length Co) := hqo.blk.cell 1
  have lo := hqo.blk.lt
  go_wp2_with (fail)
  refine call_world fun b10 hb10 => ?_
  obtain ⟨hqn, hsv⟩ := Tv.make ho hb10
  clear cz0 cz1 lz co0 co1 lo
  replace HS1 := Lib.hid (HS1.out.trans hsv (fun _ _ h => h))
  replace hqX := hqX.same hsv
  replace hqx := hqx.same hsv
  replace hqz := hqz.same hsv
  replace hqo := hqo.same hsv
  replace hqg := hqg.same hsv
  obtain ⟨Te, hTe⟩ : ∃ b, u9.heap.size = b := ⟨_, rfl⟩
  rw [hTe] at hqn ⊢
  have hqe := hqn
  clear hqn hb10 hsv hTe ho
  refine (HB.out Az Cz Ao Co b10 ⟨hqz.wl, SF.out⟩ ⟨hqo.wl, ST.out⟩).mono ?_
  rintro e u11 ⟨Ab, Cb, rfl, hN⟩
  have hs := hN.2.2
  have ho := hN.1.sl ucell_len
  clear hN
  replace HS1 := Lib.hid (HS1.out.trans hs (fun _ _ h => h))
  replace hqX := hqX.same hs
  replace hqx := hqx.same hs
  replace hqz := hqz.same hs
  replace hqo := hqo.same hs
  replace hqg := hqg.same hs
  replace hqe := hqe.same hs
  clear hs
  go_upto_region 9 with fail
  refine wp_world fun b12 hb12 => ?_
  obtain ⟨hqn, hsv⟩ := Tv.make ho hb12
  replace HS1 := Lib.hid (HS1.out.trans hsv (fun _ _ h => h))
  replace hqX := hqX.same hsv
  replace hqx := hqx.same hsv
  replace hqz := hqz.same hsv
  replace hqo := hqo.same hsv
  replace hqg := hqg.same hsv
  replace hqe := hqe.same hsv
  obtain ⟨Tb, hTe⟩ : ∃ b, u11.heap.size = b := ⟨_, rfl⟩
  rw [hTe] at hqn ⊢
  have hqb := hqn
  clear hqn hb12 hsv hTe ho
  have cX0 : b12.cell? ⟨w.heap.size, 0, none⟩ = some (.int .i64 n) := hqX.blk.cell 0
  have cX1 : b12.cell? ⟨w.heap.size, 1, none⟩ = some (.slice Aa ws.length Ca) := hqX.blk.cell 1
  have lX := hqX.blk.lt
  have cg0 : b12.cell? ⟨Tg, 0, none⟩ = some (.int .i64 n) := hqg.blk.cell 0
  have cg1 : b12.cell? ⟨Tg, 1, none⟩ = some (.slice Ag ws.length Cg) := hqg.blk.cell 1
  have lg := hqg.blk.lt
  go_wp2_with (fail)
  refine (Q1.out Aa Ca Ag Cg b12 hqX.wl hqg.wl).mono ?_
  rintro e u13 ⟨rfl, hs⟩
  clear cX0 cX1 lX cg0 cg1 lg
  replace HS1 := Lib.hid (HS1.out.trans hs (fun _ _ h => h))
  replace hqX := hqX.same hs
  replace hqx := hqx.same hs
  replace hqz := hqz.same hs
  replace hqo := hqo.same hs
  replace hqg := hqg.same hs
  replace hqe := hqe.same hs
  replace hqb := hqb.same hs
  clear hs
  have ce0 : u13.cell? ⟨Te, 0, none⟩ = some (.int .i64 n) := hqe.blk.cell 0
  have ce1 : u13.cell? ⟨Te, 1, none⟩ = some (.slice Ae we.length Ce) := hqe.blk.cell 1
  have le := hqe.blk.lt
  have cb0 : u13.cell? ⟨Tb, 0, none⟩ = some (.int .i64 n) := hqb.blk.cell 0
  have cb1 : u13.cell? ⟨Tb, 1, none⟩ = some (.slice Ab we.length Cb) := hqb.blk.cell 1
  have lb := hqb.blk.lt
  go_wp2_with (fail)
  refine (Q2.out Ae Ce Ab Cb u13 hqe.wl hqb.wl).mono ?_
  rintro e u14 ⟨rfl, hs⟩
  clear ce0 ce1 le cb0 cb1 lb
  replace HS1 := Lib.hid (HS1.out.trans hs (fun _ _ h => h))
  replace hqX := hqX.same hs
  replace hqx := hqx.same hs
  replace hqz := hqz.same hs
  replace hqo := hqo.same hs
  replace hqg := hqg.same hs
  replace hqe := hqe.same hs
  replace hqb := hqb.same hs
  clear hs
  have cz0 : u14.cell? ⟨Tz, 0, none⟩ = some (.int .i64 n) := hqz.blk.cell 0
  have cz1 : u14.cell? ⟨Tz, 1, none⟩ = some (.slice Az wz.length Cz) := hqz.blk.cell 1
  have lz := hqz.blk.lt
  have co0 : u14.cell? ⟨To, 0, none⟩ = some (.int .i64 n) := hqo.blk.cell 0
  have co1 : u14.cell? ⟨To, 1, none⟩ = some (.slice Ao wo.length Co) := hqo.blk.cell 1
  have lo := hqo.blk.lt
  go_wp2_with (fail)
  refine (Q3.out Az Cz Ao Co u14 hqz.wl hqo.wl).mono ?_
  rintro e u15 ⟨rfl, hs⟩
  clear cz0 cz1 lz co0 co1 lo
  replace HS1 := Lib.hid (HS1.out.trans hs (fun _ _ h => h))
  replace hqX := hqX.same hs
  replace hqx := hqx.same hs
  replace hqz := hqz.same hs
  replace hqo := hqo.same hs
  replace hqg := hqg.same hs
  replace hqe := hqe.same hs
  replace hqb := hqb.same hs
  clear hs
  go_wp2
  go_ret
  exact ⟨by cases r <;> rfl, HS1.out⟩

end Go.Proofs.Ytaakjecnompogaa


/- Permutations: Check and both of the program; place, DocCheck and worse of the reference. -/
namespace Go.Proofs.Ytaakjecnompogaa
open Go.RowKit Go.Tk

theorem info_int : (Try.prog.info? 3).map (fun i => (i.zero, i.size, i.bytes)) = some (some (.int .i64 0), 1, 8) := by kernel_rfl

/-- which numbers stand among the first k -/
def seenL (xs : List Int) (k n : Nat) : List Bool := (List.range n).map fun j : Nat => decide ((j : Int) ∈ xs.take k)
theorem seenL_len (xs : List Int) (k n : Nat) : (seenL xs k n).length = n := by simp [seenL]
theorem seenL_get (xs : List Int) (k : Nat) {n j : Nat} (h : j < n) : (seenL xs k n)[j]? = some (decide ((j : Int) ∈ xs.take k)) := by simp [seenL, h]
theorem seenL_zero (xs : List Int) (n : Nat) : seenL xs 0 n = List.replicate n false := by
  apply List.ext_getElem?
  intro j
  rcases Nat.lt_or_ge j n with h | h
  · rw [seenL_get xs 0 h]; simp [h]
  · rw [List.getElem?_eq_none (by rw [seenL_len]; exact h), List.getElem?_eq_none (by simpa using h)]
theorem take_snoc {α : Type} {xs : List α} {k : Nat} {x : α} (h : xs[k]? = some x) : xs.take (k + 1) = xs.take k ++ [x] := by
  have hl := lt_of_get h
  rw [List.getElem?_eq_getElem hl] at h
  injection h with h
  rw [List.take_succ_eq_append_getElem hl, h]
theorem seenL_set {xs : List Int} {k n : Nat} {x : Nat} (h : xs[k]? = some (x : Int)) (hx : x < n) : (seenL xs k n).set x true = seenL xs (k + 1) n := by
  apply List.ext_getElem?
  intro j
  rcases Nat.lt_or_ge j n with hj | hj
  · rw [seenL_get xs (k + 1) hj, List.getElem?_set, seenL_len, seenL_get xs k hj, take_snoc h]
    split
    · rename_i he; subst he; simp
    · rename_i hne
      congr 1
      have : ¬ ((j : Int) = (x : Int)) := by omega
      simp [this]
  · rw [List.getElem?_eq_none (by simp [seenL_len, hj]), List.getElem?_eq_none (by rw [seenL_len]; exact hj)]
/-- the first k things are in order -/
def Good (xs : List Int) (k : Nat) : Prop := (∀ x, x ∈ xs.take k → 0 ≤ x ∧ x < xs.length) ∧ (xs.take k).Nodup
theorem Good.next {xs : List Int} {k : Nat} {x : Int} (h : Good xs k) (hx : xs[k]? = some x) (h0 : 0 ≤ x) (h1 : x < xs.length) (hn : x ∉ xs.take k) : Good xs (k + 1) := by
  unfold Good
  rw [take_snoc hx]
  refine ⟨fun y hy => ?_, ?_⟩
  · rcases List.mem_append.1 hy with hy | hy
    · exact h.1 y hy
    · simp at hy; subst hy; exact ⟨h0, h1⟩
  · rw [List.nodup_append]
    exact ⟨h.2, by simp, fun a ha b hb => by simp at hb; subst hb; rintro rfl; exact hn ha⟩
theorem not_perm_range {xs : List Int} {k : Nat} {x : Int} (hx : xs[k]? = some x) (h : x < 0 ∨ (xs.length : Int) ≤ x) : chk xs = 4 := by
  unfold chk
  rw [if_neg]
  rintro ⟨h1, _⟩
  have := h1 x (List.mem_of_getElem? hx)
  omega
theorem not_perm_dup {xs : List Int} {k : Nat} {x : Int} (hx : xs[k]? = some x) (h : x ∈ xs.take k) : chk xs = 4 := by
  unfold chk
  rw [if_neg]
  rintro ⟨_, h2⟩
  have h3 : (xs.take (k + 1)).Nodup := h2.sublist (List.take_sublist _ _)
  rw [take_snoc hx, List.nodup_append] at h3
  exact h3.2.2 x h x (by simp) rfl
theorem good_all {xs : List Int} (h : Good xs xs.length) : IsPerm xs := by
  unfold Good at h
  rw [List.take_length] at h
  exact h

end Go.Proofs.Ytaakjecnompogaa


/- Permutations: lists that are answered; place, slices.Index, DocCheck, worse, slices.Clone. -/
namespace Go.Tk
open Go.RowKit
theorem Frm.same_app {w0 w wa wb : World} {A : Option Addr} {N C : Nat} (h : Frm (fun _ => False) w0 w) (ha : Frm (fun _ => False) w wa) (hg : wa.grownBy wb (Value.slice A N C).ownBlock) (hA : Fresh w0.heap.size A) : Frm (fun _ => False) w0 wb :=
  (h.trans ha (fun _ _ h => h)).grown hg (fun g hg => .inr (hA g (ownBlock_row.1 hg)))
theorem Same.app {w0 w wa wb : World} {A : Option Addr} {N C : Nat} (h : Same w0 w) (ha : Same w wa) (hg : wa.grownBy wb (Value.slice A N C).ownBlock) (hA : Fresh w0.heap.size A) : Same w0 wb := Frm.same_app h ha hg hA
theorem fresh_app {w0 w wa : World} {A : Option Addr} {N C g : Nat} (h : Same w0 w) (ha : Same w wa) (hA : Fresh w0.heap.size A) (hat : (Value.slice A N C).ownBlock = some g ∨ g = wa.heap.size) : Fresh w0.heap.size (some ⟨g, 0, none⟩) := by
  refine fresh_some ?_
  have := h.size
  have := ha.size
  rcases hat with h | h
  · exact hA g (ownBlock_row.1 h)
  · omega
theorem IL.src {w : World} {A : Option Addr} {n : Nat} {xs : List Int} (h : IL w A n xs) (hne : xs ≠ []) : ∃ ad, A = some ad ∧ ∀ j u, (xs.flatMap icell)[j]? = some u → w.cell? (ad.add j) = some u := by
  have h0 : 0 < xs.length := List.length_pos_iff.2 hne
  obtain ⟨b, off, rfl, _, _⟩ := h.at1 (List.getElem?_eq_getElem h0)
  refine ⟨_, rfl, fun j u hj => ?_⟩
  have hfl : ∀ l : List Int, l.flatMap icell = l.map (fun x => Value.int .i64 x) := by
    intro l
    induction l with
    | nil => rfl
    | cons x l ih => rw [List.flatMap_cons, ih]; rfl
  rw [hfl, List.getElem?_map] at hj
  cases hx : xs[j]? with
  | none => rw [hx] at hj; cases hj
  | some x =>
    rw [hx] at hj
    simp at hj
    subst hj
    obtain ⟨b', off', h1, _, h3⟩ := h.at1 hx
    injection h1 with h1
    injection h1 with h1 h2
    subst h1 h2
    have : (⟨b, off, none⟩ : Addr).add j = ⟨b, off + j, none⟩ := by unfold Addr.add; split <;> simp_all
    rw [this]
    exact h3
theorem IL.nil {w : World} {n : Nat} {xs : List Int} (h : IL w none n xs) : xs = [] := by
  cases xs with
  | nil => rfl
  | cons x xs =>
    obtain ⟨b, off, h1, _⟩ := h.at1 (i := 0) (x := x) rfl
    cases h1
end Go.Tk
namespace Go.Proofs.Ytaakjecnompogaa
open Go.RowKit Go.Tk

/-- a list of the call's own -/
def NewL (w : World) (ys : List Int) (A : Option Addr) (C : Nat) (w' : World) : Prop := OwnI w' 3 A ys.length C ys ∧ Fresh w.heap.size A ∧ Same w w'
def RetL (w : World) (ys : List Int) (e : Ending) (w' : World) : Prop := ∃ A C, e = .returned (.slice A ys.length C) ∧ NewL w ys A C w'
def RetE (w : World) (ys : List Int) (err : Int) (e : Ending) (w' : World) : Prop := ∃ A C, e = .returned (.tuple #[.slice A ys.length C, .int .i64 err]) ∧ NewL w ys A C w'
theorem NewL.nil (w : World) : NewL w [] none 0 w := ⟨Own.nil _ _ _ _, fresh_none _, Frm.refl _ _⟩
theorem NewL.nil' {w w' : World} (h : Same w w') : NewL w [] none 0 w' := ⟨Own.nil _ _ _ _, fresh_none _, h⟩

/-- 0 .. k-1, then noughts -/
def idL (n k : Nat) : List Int := (List.range n).map fun j : Nat => if j < k then (j : Int) else 0
theorem idL_len (n k : Nat) : (idL n k).length = n := by simp [idL]
theorem idL_zero (n : Nat) : idL n 0 = List.replicate n 0 := by
  apply List.ext_getElem?
  intro j
  rcases Nat.lt_or_ge j n with h | h
  · simp [idL, h]
  · rw [List.getElem?_eq_none (by rw [idL_len]; exact h), List.getElem?_eq_none (by simpa using h)]
theorem idL_full (n : Nat) : idL n n = rng n := by
  apply List.ext_getElem?
  intro j
  rcases Nat.lt_or_ge j n with h | h
  · rw [rng_get h]; simp [idL, h]
  · rw [List.getElem?_eq_none (by rw [idL_len]; exact h), List.getElem?_eq_none (by rw [rng_len]; exact h)]
theorem idL_set {n k : Nat} (_h : k < n) : (idL n k).set k (k : Int) = idL n (k + 1) := by
  apply List.ext_getElem?
  intro j
  rcases Nat.lt_or_ge j n with hj | hj
  · rw [List.getElem?_set, idL_len]
    simp only [idL, List.getElem?_map, List.getElem?_range hj, Option.map_some]
    split
    · rename_i he; subst he; simp
    · rename_i he
      congr 1
      by_cases h : j < k
      · rw [if_pos h, if_pos (by omega)]
      · rw [if_neg h, if_neg (by omega)]
  · rw [List.getElem?_eq_none (by simp [idL_len, hj]), List.getElem?_eq_none (by rw [idL_len]; exact hj)]

end Go.Proofs.Ytaakjecnompogaa
