/- Truth tables: Binary of the program. -/
import Derived.Test.YtlggmoghgoeiiaaTrBin
namespace Go.Proofs.Ytlggmoghgoeiiaa
open Go.RowKit Go.Tk

def binE (op : Nat) (fr : Bool) : Int := if 15 < op then 1 else fmE fr
def binF (op : Nat) (wsa wsb : List Nat) : Nat → Bool := fun i => op.testBit ((if vb wsa i then 2 else 0) + (if vb wsb i then 1 else 0))
theorem fm_two {Na Nb : Int} {Aa Ab : Option Addr} {Ca Cb : Nat} {wsa wsb : List Nat} (h : fm [⟨Na, Aa, Ca, wsa⟩, ⟨Nb, Ab, Cb, wsb⟩] = true) : ∃ n : Nat, Na = n ∧ Nb = n ∧ FormN n wsa ∧ FormN n wsb := by
  simp [fm, Tb.frm] at h
  obtain ⟨n, rfl, h1⟩ := frm_true h.1
  have h2 := h.2.1
  rw [h.2.2] at h2
  exact ⟨n, rfl, h.2.2, h1, frm_nat.1 h2⟩
theorem getD_of {ws : List Nat} {k x : Nat} (h : ws[k]? = some x) : ws.getD k 0 = x := by rw [List.getD_eq_getElem?_getD, h]; rfl
set_option maxHeartbeats 4000000 in
theorem Binary_any (op : Nat) (Na : Int) (Aa : Option Addr) (Ca : Nat) (wsa : List Nat) (Nb : Int) (Ab : Option Addr) (Cb : Nat) (wsb : List Nat) (w : World) (hop : op < 256) (ha : TbOk w ⟨Na, Aa, Ca, wsa⟩) (hb : TbOk w ⟨Nb, Ab, Cb, wsb⟩) :
    Calls Try.prog 31 #[.int .u8 op, .agg #[.int .i64 Na, .slice Aa wsa.length Ca], .agg #[.int .i64 Nb, .slice Ab wsb.length Cb]] w (RetA w Na (tab Na.toNat (binF op wsa wsb)) (binE op (fm [⟨Na, Aa, Ca, wsa⟩, ⟨Nb, Ab, Cb, wsb⟩]))) := by
  have hmf : ∀ (fn : Fn) (first cap : Array Value) (w : World), (Instr.makeFunc fn first cap).run Try.prog w = .ok (.func fn first cap) w := fun _ _ _ _ => rfl
  have Ha := Lib.hid ha
  have Hb := Lib.hid hb
  clear ha hb
  by_cases h15 : 15 < op
  · have h15' : (op : Int) > 15 := by omega
    unfold RetA
    unfold binE
    rw [if_pos h15, show ansN Na 1 = 0 from rfl, show ansL (tab Na.toNat (binF op wsa wsb)) 1 = [] from rfl]
    clear h15 hmf
    go_enter Try.func31, Try.ntmps31
    go_upto_region 1 with fail
    refine wp_world fun w1 hw1 => ?_
    have hs1 : Same w w1 := by rw [hw1]; exact ((((Frm.refl _ _).alloc _).alloc _).alloc _).alloc _
    have hBO : Blk w1 (w.heap.size) 5 #[.int .u8 op] := by
      rw [hw1]
      have := ((((Blk.new w 5 #[.int .u8 op]).alloc (.cells #[.int .i64 Na, .slice Aa wsa.length Ca] 24)).alloc (.cells #[.int .i64 Nb, .slice Ab wsb.length Cb] 24)).alloc (.cells #[.int .i64 0, .slice none 0 0] 24))
      simpa using this
    have hBXa : Blk w1 (w.heap.size + 1) 24 #[.int .i64 Na, .slice Aa wsa.length Ca] := by
      rw [hw1]
      have := (((Blk.new (w.alloc (.cells #[.int .u8 op] 5)) 24 #[.int .i64 Na, .slice Aa wsa.length Ca]).alloc (.cells #[.int .i64 Nb, .slice Ab wsb.length Cb] 24)).alloc (.cells #[.int .i64 0, .slice none 0 0] 24))
      simpa using this
    have hBXb : Blk w1 (w.heap.size + 1 + 1) 24 #[.int .i64 Nb, .slice Ab wsb.length Cb] := by
      rw [hw1]
      have := ((Blk.new ((w.alloc (.cells #[.int .u8 op] 5)).alloc (.cells #[.int .i64 Na, .slice Aa wsa.length Ca] 24)) 24 #[.int .i64 Nb, .slice Ab wsb.length Cb]).alloc (.cells #[.int .i64 0, .slice none 0 0] 24))
      simpa using this
    have hBR : Blk w1 (w.heap.size + 1 + 1 + 1) 24 #[.int .i64 0, .slice none 0 0] := by
      rw [hw1]
      have := (Blk.new (((w.alloc (.cells #[.int .u8 op] 5)).alloc (.cells #[.int .i64 Na, .slice Aa wsa.length Ca] 24)).alloc (.cells #[.int .i64 Nb, .slice Ab wsb.length Cb] 24)) 24 #[.int .i64 0, .slice none 0 0])
      simpa using this
    clear hw1
    obtain ⟨R, hR⟩ : ∃ b, w.heap.size + 1 + 1 + 1 = b := ⟨_, rfl⟩
    rw [hR] at hBR ⊢
    obtain ⟨Xb, hXb⟩ : ∃ b, w.heap.size + 1 + 1 = b := ⟨_, rfl⟩
    rw [hXb] at hBXb ⊢
    obtain ⟨Xa, hXa⟩ : ∃ b, w.heap.size + 1 = b := ⟨_, rfl⟩
    rw [hXa] at hBXa ⊢
    have leXa : w.heap.size ≤ Xa := by omega
    have leXb : w.heap.size ≤ Xb := by omega
    have leR : w.heap.size ≤ R := by omega
    have neOXa : w.heap.size ≠ Xa := by omega
    have neOXb : w.heap.size ≠ Xb := by omega
    have neOR : w.heap.size ≠ R := by omega
    have neXaXb : Xa ≠ Xb := by omega
    have neXaR : Xa ≠ R := by omega
    have neXbR : Xb ≠ R := by omega
    clear hXa hXb hR
    have cO0 : w1.cell? ⟨w.heap.size, 0, none⟩ = some (.int .u8 op) := hBO.cell 0
    have lO := hBO.lt
    have fO0 := hBO.free 0
    have HBO := Lib.hid hBO
    have cXa0 : w1.cell? ⟨Xa, 0, none⟩ = some (.int .i64 Na) := hBXa.cell 0
    have cXa1 : w1.cell? ⟨Xa, 1, none⟩ = some (.slice Aa wsa.length Ca) := hBXa.cell 1
    have lXa := hBXa.lt
    have fXa0 := hBXa.free 0
    have fXa1 := hBXa.free 1
    have HBXa := Lib.hid hBXa
    have cXb0 : w1.cell? ⟨Xb, 0, none⟩ = some (.int .i64 Nb) := hBXb.cell 0
    have cXb1 : w1.cell? ⟨Xb, 1, none⟩ = some (.slice Ab wsb.length Cb) := hBXb.cell 1
    have lXb := hBXb.lt
    have fXb0 := hBXb.free 0
    have fXb1 := hBXb.free 1
    have HBXb := Lib.hid hBXb
    have cR0 : w1.cell? ⟨R, 0, none⟩ = some (.int .i64 0) := hBR.cell 0
    have cR1 : w1.cell? ⟨R, 1, none⟩ = some (.slice none 0 0) := hBR.cell 1
    have lR := hBR.lt
    have fR0 := hBR.free 0
    have fR1 := hBR.free 1
    have HBR := Lib.hid hBR
    have HS1 := Lib.hid hs1
    clear hs1 hBO hBXa hBXb hBR
    have HOKa := Lib.hid (Ha.out.same HS1.out)
    have HOKb := Lib.hid (Hb.out.same HS1.out)
    go_wp2
    refine wp_post fun we hwe => ?_
    have hBE : Blk we R 24 #[.int .i64 0, .slice none 0 0] := by
      rw [hwe]
      have := (HBR.out.set 0 (.int .i64 0)).set 1 (.slice none 0 0)
      simpa using this
    have hSE : Same w we := by rw [hwe]; exact (HS1.out.setNew 0 _ leR).setNew 1 _ leR
    have hr0 : we.cell? ⟨R, 0, none⟩ = some (.int .i64 0) := hBE.cell 0
    have hr1 : we.cell? ⟨R, 1, none⟩ = some (.slice none 0 0) := hBE.cell 1
    clear hwe hBE
    refine bodyPost_ret (v := .tuple #[.agg #[.int .i64 0, .slice none 0 0], .int .i64 1]) (by simp [results, Try.results31, go_sem, hr0, hr1]) rfl ?_
    exact ⟨none, 0, rfl, NewT.nil hSE⟩
  have h15' : ¬ (op : Int) > 15 := by omega
  unfold binE
  rw [if_neg h15]
  clear h15
  cases hfr : fm [⟨Na, Aa, Ca, wsa⟩, ⟨Nb, Ab, Cb, wsb⟩] with
  | false =>
    unfold RetA
    rw [show fmE false = 5 from rfl, show ansN Na 5 = 0 from rfl, show ansL (tab Na.toNat (binF op wsa wsb)) 5 = [] from rfl]
    have HFM := Lib.hid hfr
    clear hfr hmf
    go_enter Try.func31, Try.ntmps31
    go_upto_region 1 with fail
    refine wp_world fun w1 hw1 => ?_
    have hs1 : Same w w1 := by rw [hw1]; exact ((((Frm.refl _ _).alloc _).alloc _).alloc _).alloc _
    have hBO : Blk w1 (w.heap.size) 5 #[.int .u8 op] := by
      rw [hw1]
      have := ((((Blk.new w 5 #[.int .u8 op]).alloc (.cells #[.int .i64 Na, .slice Aa wsa.length Ca] 24)).alloc (.cells #[.int .i64 Nb, .slice Ab wsb.length Cb] 24)).alloc (.cells #[.int .i64 0, .slice none 0 0] 24))
      simpa using this
    have hBXa : Blk w1 (w.heap.size + 1) 24 #[.int .i64 Na, .slice Aa wsa.length Ca] := by
      rw [hw1]
      have := (((Blk.new (w.alloc (.cells #[.int .u8 op] 5)) 24 #[.int .i64 Na, .slice Aa wsa.length Ca]).alloc (.cells #[.int .i64 Nb, .slice Ab wsb.length Cb] 24)).alloc (.cells #[.int .i64 0, .slice none 0 0] 24))
      simpa using this
    have hBXb : Blk w1 (w.heap.size + 1 + 1) 24 #[.int .i64 Nb, .slice Ab wsb.length Cb] := by
      rw [hw1]
      have := ((Blk.new ((w.alloc (.cells #[.int .u8 op] 5)).alloc (.cells #[.int .i64 Na, .slice Aa wsa.length Ca] 24)) 24 #[.int .i64 Nb, .slice Ab wsb.length Cb]).alloc (.cells #[.int .i64 0, .slice none 0 0] 24))
      simpa using this
    have hBR : Blk w1 (w.heap.size + 1 + 1 + 1) 24 #[.int .i64 0, .slice none 0 0] := by
      rw [hw1]
      have := (Blk.new (((w.alloc (.cells #[.int .u8 op] 5)).alloc (.cells #[.int .i64 Na, .slice Aa wsa.length Ca] 24)).alloc (.cells #[.int .i64 Nb, .slice Ab wsb.length Cb] 24)) 24 #[.int .i64 0, .slice none 0 0])
      simpa using this
    clear hw1
    obtain ⟨R, hR⟩ : ∃ b, w.heap.size + 1 + 1 + 1 = b := ⟨_, rfl⟩
    rw [hR] at hBR ⊢
    obtain ⟨Xb, hXb⟩ : ∃ b, w.heap.size + 1 + 1 = b := ⟨_, rfl⟩
    rw [hXb] at hBXb ⊢
    obtain ⟨Xa, hXa⟩ : ∃ b, w.heap.size + 1 = b := ⟨_, rfl⟩
    rw [hXa] at hBXa ⊢
    have leXa : w.heap.size ≤ Xa := by omega
    have leXb : w.heap.size ≤ Xb := by omega
    have leR : w.heap.size ≤ R := by omega
    have neOXa : w.heap.size ≠ Xa := by omega
    have neOXb : w.heap.size ≠ Xb := by omega
    have neOR : w.heap.size ≠ R := by omega
    have neXaXb : Xa ≠ Xb := by omega
    have neXaR : Xa ≠ R := by omega
    have neXbR : Xb ≠ R := by omega
    clear hXa hXb hR
    have cO0 : w1.cell? ⟨w.heap.size, 0, none⟩ = some (.int .u8 op) := hBO.cell 0
    have lO := hBO.lt
    have fO0 := hBO.free 0
    have HBO := Lib.hid hBO
    have cXa0 : w1.cell? ⟨Xa, 0, none⟩ = some (.int .i64 Na) := hBXa.cell 0
    have cXa1 : w1.cell? ⟨Xa, 1, none⟩ = some (.slice Aa wsa.length Ca) := hBXa.cell 1
    have lXa := hBXa.lt
    have fXa0 := hBXa.free 0
    have fXa1 := hBXa.free 1
    have HBXa := Lib.hid hBXa
    have cXb0 : w1.cell? ⟨Xb, 0, none⟩ = some (.int .i64 Nb) := hBXb.cell 0
    have cXb1 : w1.cell? ⟨Xb, 1, none⟩ = some (.slice Ab wsb.length Cb) := hBXb.cell 1
    have lXb := hBXb.lt
    have fXb0 := hBXb.free 0
    have fXb1 := hBXb.free 1
    have HBXb := Lib.hid hBXb
    have cR0 : w1.cell? ⟨R, 0, none⟩ = some (.int .i64 0) := hBR.cell 0
    have cR1 : w1.cell? ⟨R, 1, none⟩ = some (.slice none 0 0) := hBR.cell 1
    have lR := hBR.lt
    have fR0 := hBR.free 0
    have fR1 := hBR.free 1
    have HBR := Lib.hid hBR
    have HS1 := Lib.hid hs1
    clear hs1 hBO hBXa hBXb hBR
    have HOKa := Lib.hid (Ha.out.same HS1.out)
    have HOKb := Lib.hid (Hb.out.same HS1.out)
    go_wp2_with (fail)
    refine call_world fun w2 hw2 => ?_
    have hs2 : Same w1 w2 := by rw [hw2]; exact (Frm.refl _ _).alloc _
    have hBL : Blk w2 w1.heap.size 24 #[.int .i64 Na, .slice Aa wsa.length Ca, .int .i64 Nb, .slice Ab wsb.length Cb] := by rw [hw2]; exact Blk.new _ _ _
    have htbs : Tbs w2 w1.heap.size [⟨Na, Aa, Ca, wsa⟩, ⟨Nb, Ab, Cb, wsb⟩] := by
      intro i t hi
      match i, hi with
      | 0, hi =>
        simp only [List.getElem?_cons_zero, Option.some.injEq] at hi
        subst hi
        exact ⟨hBL.lt, hBL.cell 0, hBL.cell 1⟩
      | 1, hi =>
        simp only [List.getElem?_cons_zero, List.getElem?_cons_succ, Option.some.injEq] at hi
        subst hi
        exact ⟨hBL.lt, hBL.cell 2, hBL.cell 3⟩
      | i + 2, hi => simp at hi
    have hfc := form_any w1.heap.size 2 2 [⟨Na, Aa, Ca, wsa⟩, ⟨Nb, Ab, Cb, wsb⟩] w2 rfl (by decide) htbs (fun t ht => by
      simp only [List.mem_cons, List.not_mem_nil, or_false] at ht
      rcases ht with rfl | rfl
      · exact (HOKa.out).same hs2
      · exact (HOKb.out).same hs2)
    rw [HFM.out] at hfc
    refine hfc.mono ?_
    clear hfc htbs hBL hw2
    rintro e w3 ⟨rfl, hs3⟩
    have hs13 : Same w1 w3 := hs2.trans hs3 (fun _ _ h => h)
    clear hs2 hs3
    replace HBO := Lib.hid (HBO.out.frm hs13 id)
    replace cO0 : w3.cell? ⟨w.heap.size, 0, none⟩ = some (.int .u8 op) := HBO.out.cell 0
    replace lO := HBO.out.lt
    replace fO0 := HBO.out.free 0
    replace HBXa := Lib.hid (HBXa.out.frm hs13 id)
    replace cXa0 : w3.cell? ⟨Xa, 0, none⟩ = some (.int .i64 Na) := HBXa.out.cell 0
    replace cXa1 : w3.cell? ⟨Xa, 1, none⟩ = some (.slice Aa wsa.length Ca) := HBXa.out.cell 1
    replace lXa := HBXa.out.lt
    replace fXa0 := HBXa.out.free 0
    replace fXa1 := HBXa.out.free 1
    replace HBXb := Lib.hid (HBXb.out.frm hs13 id)
    replace cXb0 : w3.cell? ⟨Xb, 0, none⟩ = some (.int .i64 Nb) := HBXb.out.cell 0
    replace cXb1 : w3.cell? ⟨Xb, 1, none⟩ = some (.slice Ab wsb.length Cb) := HBXb.out.cell 1
    replace lXb := HBXb.out.lt
    replace fXb0 := HBXb.out.free 0
    replace fXb1 := HBXb.out.free 1
    replace HBR := Lib.hid (HBR.out.frm hs13 id)
    replace cR0 : w3.cell? ⟨R, 0, none⟩ = some (.int .i64 0) := HBR.out.cell 0
    replace cR1 : w3.cell? ⟨R, 1, none⟩ = some (.slice none 0 0) := HBR.out.cell 1
    replace lR := HBR.out.lt
    replace fR0 := HBR.out.free 0
    replace fR1 := HBR.out.free 1
    replace HS1 := Lib.hid (HS1.out.trans hs13 (fun _ _ h => h))
    clear hs13
    go_wp2
    refine wp_post fun we hwe => ?_
    have hBE : Blk we R 24 #[.int .i64 0, .slice none 0 0] := by
      rw [hwe]
      have := (HBR.out.set 0 (.int .i64 0)).set 1 (.slice none 0 0)
      simpa using this
    have hSE : Same w we := by rw [hwe]; exact (HS1.out.setNew 0 _ leR).setNew 1 _ leR
    have hr0 : we.cell? ⟨R, 0, none⟩ = some (.int .i64 0) := hBE.cell 0
    have hr1 : we.cell? ⟨R, 1, none⟩ = some (.slice none 0 0) := hBE.cell 1
    clear hwe hBE
    refine bodyPost_ret (v := .tuple #[.agg #[.int .i64 0, .slice none 0 0], .int .i64 5]) (by simp [results, Try.results31, go_sem, hr0, hr1]) rfl ?_
    exact ⟨none, 0, rfl, NewT.nil hSE⟩
  | true =>
    obtain ⟨n, rfl, rfl, hfa, hfb⟩ := fm_two hfr
    unfold RetA
    rw [show fmE true = 0 from rfl, show ansN n 0 = n from rfl, show ansL (tab (n : Int).toNat (binF op wsa wsb)) 0 = tab n (binF op wsa wsb) from rfl]
    have HFM := Lib.hid hfr
    have hn := hfa.n16
    have hsa := Ha.out.small
    have hsb := Hb.out.small
    have HTB := Lib.hid (laid_tab (n := n) (g := fun i => binN op (wsa.getD i 0) (wsb.getD i 0)) (F := binF op wsa wsb) fun k hk j hj _ => by
      obtain ⟨x, hx⟩ : ∃ x, wsa[k]? = some x := ⟨_, List.getElem?_eq_getElem (by rw [hfa.len]; exact hk)⟩
      obtain ⟨y, hy⟩ : ∃ y, wsb[k]? = some y := ⟨_, List.getElem?_eq_getElem (by rw [hfb.len]; exact hk)⟩
      rw [getD_of hx, getD_of hy, binN_bit (hsa.at1 hx) (hsb.at1 hy) hj]
      unfold binF
      rw [vb_word hx hj, vb_word hy hj])
    have HLa := Lib.hid hfa.len
    have HLb := Lib.hid hfb.len
    have HSa := Lib.hid hsa
    have HSb := Lib.hid hsb
    clear hfr hfa hfb hsa hsb
    have hen : ∀ (args : Array Value) (w : World), (callFunc 71 args).run Try.prog w = .ok (.enter 71 args) w := enters_of Try.func71 (by kernel_rfl) rfl
    have HEN := Lib.hid hen
    clear hen
    go_enter Try.func31, Try.ntmps31
    go_upto_region 1 with fail
    refine wp_world fun w1 hw1 => ?_
    have hs1 : Same w w1 := by rw [hw1]; exact ((((Frm.refl _ _).alloc _).alloc _).alloc _).alloc _
    have hBO : Blk w1 (w.heap.size) 5 #[.int .u8 op] := by
      rw [hw1]
      have := ((((Blk.new w 5 #[.int .u8 op]).alloc (.cells #[.int .i64 n, .slice Aa wsa.length Ca] 24)).alloc (.cells #[.int .i64 n, .slice Ab wsb.length Cb] 24)).alloc (.cells #[.int .i64 0, .slice none 0 0] 24))
      simpa using this
    have hBXa : Blk w1 (w.heap.size + 1) 24 #[.int .i64 n, .slice Aa wsa.length Ca] := by
      rw [hw1]
      have := (((Blk.new (w.alloc (.cells #[.int .u8 op] 5)) 24 #[.int .i64 n, .slice Aa wsa.length Ca]).alloc (.cells #[.int .i64 n, .slice Ab wsb.length Cb] 24)).alloc (.cells #[.int .i64 0, .slice none 0 0] 24))
      simpa using this
    have hBXb : Blk w1 (w.heap.size + 1 + 1) 24 #[.int .i64 n, .slice Ab wsb.length Cb] := by
      rw [hw1]
      have := ((Blk.new ((w.alloc (.cells #[.int .u8 op] 5)).alloc (.cells #[.int .i64 n, .slice Aa wsa.length Ca] 24)) 24 #[.int .i64 n, .slice Ab wsb.length Cb]).alloc (.cells #[.int .i64 0, .slice none 0 0] 24))
      simpa using this
    have hBR : Blk w1 (w.heap.size + 1 + 1 + 1) 24 #[.int .i64 0, .slice none 0 0] := by
      rw [hw1]
      have := (Blk.new (((w.alloc (.cells #[.int .u8 op] 5)).alloc (.cells #[.int .i64 n, .slice Aa wsa.length Ca] 24)).alloc (.cells #[.int .i64 n, .slice Ab wsb.length Cb] 24)) 24 #[.int .i64 0, .slice none 0 0])
      simpa using this
    clear hw1
    obtain ⟨R, hR⟩ : ∃ b, w.heap.size + 1 + 1 + 1 = b := ⟨_, rfl⟩
    rw [hR] at hBR ⊢
    obtain ⟨Xb, hXb⟩ : ∃ b, w.heap.size + 1 + 1 = b := ⟨_, rfl⟩
    rw [hXb] at hBXb ⊢
    obtain ⟨Xa, hXa⟩ : ∃ b, w.heap.size + 1 = b := ⟨_, rfl⟩
    rw [hXa] at hBXa ⊢
    have leXa : w.heap.size ≤ Xa := by omega
    have leXb : w.heap.size ≤ Xb := by omega
    have leR : w.heap.size ≤ R := by omega
    have neOXa : w.heap.size ≠ Xa := by omega
    have neOXb : w.heap.size ≠ Xb := by omega
    have neOR : w.heap.size ≠ R := by omega
    have neXaXb : Xa ≠ Xb := by omega
    have neXaR : Xa ≠ R := by omega
    have neXbR : Xb ≠ R := by omega
    clear hXa hXb hR
    have cO0 : w1.cell? ⟨w.heap.size, 0, none⟩ = some (.int .u8 op) := hBO.cell 0
    have lO := hBO.lt
    have fO0 := hBO.free 0
    have HBO := Lib.hid hBO
    have cXa0 : w1.cell? ⟨Xa, 0, none⟩ = some (.int .i64 n) := hBXa.cell 0
    have cXa1 : w1.cell? ⟨Xa, 1, none⟩ = some (.slice Aa wsa.length Ca) := hBXa.cell 1
    have lXa := hBXa.lt
    have fXa0 := hBXa.free 0
    have fXa1 := hBXa.free 1
    have HBXa := Lib.hid hBXa
    have cXb0 : w1.cell? ⟨Xb, 0, none⟩ = some (.int .i64 n) := hBXb.cell 0
    have cXb1 : w1.cell? ⟨Xb, 1, none⟩ = some (.slice Ab wsb.length Cb) := hBXb.cell 1
    have lXb := hBXb.lt
    have fXb0 := hBXb.free 0
    have fXb1 := hBXb.free 1
    have HBXb := Lib.hid hBXb
    have cR0 : w1.cell? ⟨R, 0, none⟩ = some (.int .i64 0) := hBR.cell 0
    have cR1 : w1.cell? ⟨R, 1, none⟩ = some (.slice none 0 0) := hBR.cell 1
    have lR := hBR.lt
    have fR0 := hBR.free 0
    have fR1 := hBR.free 1
    have HBR := Lib.hid hBR
    have HS1 := Lib.hid hs1
    clear hs1 hBO hBXa hBXb hBR
    have HOKa := Lib.hid (Ha.out.same HS1.out)
    have HOKb := Lib.hid (Hb.out.same HS1.out)
    go_wp2_with (fail)
    refine call_world fun w2 hw2 => ?_
    have hs2 : Same w1 w2 := by rw [hw2]; exact (Frm.refl _ _).alloc _
    have hBL : Blk w2 w1.heap.size 24 #[.int .i64 n, .slice Aa wsa.length Ca, .int .i64 n, .slice Ab wsb.length Cb] := by rw [hw2]; exact Blk.new _ _ _
    have htbs : Tbs w2 w1.heap.size [⟨n, Aa, Ca, wsa⟩, ⟨n, Ab, Cb, wsb⟩] := by
      intro i t hi
      match i, hi with
      | 0, hi =>
        simp only [List.getElem?_cons_zero, Option.some.injEq] at hi
        subst hi
        exact ⟨hBL.lt, hBL.cell 0, hBL.cell 1⟩
      | 1, hi =>
        simp only [List.getElem?_cons_zero, List.getElem?_cons_succ, Option.some.injEq] at hi
        subst hi
        exact ⟨hBL.lt, hBL.cell 2, hBL.cell 3⟩
      | i + 2, hi => simp at hi
    have hfc := form_any w1.heap.size 2 2 [⟨n, Aa, Ca, wsa⟩, ⟨n, Ab, Cb, wsb⟩] w2 rfl (by decide) htbs (fun t ht => by
      simp only [List.mem_cons, List.not_mem_nil, or_false] at ht
      rcases ht with rfl | rfl
      · exact (HOKa.out).same hs2
      · exact (HOKb.out).same hs2)
    rw [HFM.out] at hfc
    refine hfc.mono ?_
    clear hfc htbs hBL hw2
    rintro e w3 ⟨rfl, hs3⟩
    have hs13 : Same w1 w3 := hs2.trans hs3 (fun _ _ h => h)
    clear hs2 hs3
    replace HBO := Lib.hid (HBO.out.frm hs13 id)
    replace cO0 : w3.cell? ⟨w.heap.size, 0, none⟩ = some (.int .u8 op) := HBO.out.cell 0
    replace lO := HBO.out.lt
    replace fO0 := HBO.out.free 0
    replace HBXa := Lib.hid (HBXa.out.frm hs13 id)
    replace cXa0 : w3.cell? ⟨Xa, 0, none⟩ = some (.int .i64 n) := HBXa.out.cell 0
    replace cXa1 : w3.cell? ⟨Xa, 1, none⟩ = some (.slice Aa wsa.length Ca) := HBXa.out.cell 1
    replace lXa := HBXa.out.lt
    replace fXa0 := HBXa.out.free 0
    replace fXa1 := HBXa.out.free 1
    replace HBXb := Lib.hid (HBXb.out.frm hs13 id)
    replace cXb0 : w3.cell? ⟨Xb, 0, none⟩ = some (.int .i64 n) := HBXb.out.cell 0
    replace cXb1 : w3.cell? ⟨Xb, 1, none⟩ = some (.slice Ab wsb.length Cb) := HBXb.out.cell 1
    replace lXb := HBXb.out.lt
    replace fXb0 := HBXb.out.free 0
    replace fXb1 := HBXb.out.free 1
    replace HBR := Lib.hid (HBR.out.frm hs13 id)
    replace cR0 : w3.cell? ⟨R, 0, none⟩ = some (.int .i64 0) := HBR.out.cell 0
    replace cR1 : w3.cell? ⟨R, 1, none⟩ = some (.slice none 0 0) := HBR.out.cell 1
    replace lR := HBR.out.lt
    replace fR0 := HBR.out.free 0
    replace fR1 := HBR.out.free 1
    replace HS1 := Lib.hid (HS1.out.trans hs13 (fun _ _ h => h))
    clear hs13
    have htl : Tells w3 n 71 #[.pointer (some ⟨Xa, 0, none⟩), .pointer (some ⟨Xb, 0, none⟩), .pointer (some ⟨w.heap.size, 0, none⟩)] (fun i => binN op (wsa.getD i 0) (wsb.getD i 0)) := fun i hi => ⟨bwL_lt (partN_lt _ _ (by have hil : i < wsa.length := (by rw [HLa.out]; exact hi); rw [List.getD_eq_getElem?_getD, List.getElem?_eq_getElem hil]; exact HSa.out _ (List.getElem_mem hil))) 4, fun w' hs' => by
      refine (binary1_any i Xa Xb w.heap.size op w' Aa Ca wsa (by rw [HLa.out]; exact hi) (Sl.same (Sl.same Ha.out.wl HS1.out) hs') HSa.out ((hs'.cell (p := ⟨Xa, 1, none⟩) lXa id).trans cXa1) Ab Cb wsb (by rw [HLb.out]; exact hi) (Sl.same (Sl.same Hb.out.wl HS1.out) hs') HSb.out ((hs'.cell (p := ⟨Xb, 1, none⟩) lXb id).trans cXb1) hop ((hs'.cell (p := ⟨w.heap.size, 0, none⟩) lO id).trans cO0)).mono ?_
      exact fun e w'' h => h⟩
    have HTL := Lib.hid htl
    clear htl
    go_wp2_with (fail)
    refine (laid_any n 71 #[.pointer (some ⟨Xa, 0, none⟩), .pointer (some ⟨Xb, 0, none⟩), .pointer (some ⟨w.heap.size, 0, none⟩)] (fun i => binN op (wsa.getD i 0) (wsb.getD i 0)) w3 hn HEN.out HTL.out).mono ?_
    rintro e w4 ⟨Aq, Cq, rfl, hNT⟩
    rw [HTB.out] at hNT ⊢
    have hoq := hNT.1
    have hfq := hNT.2.1
    have hsq := hNT.2.2
    have hRq : ∀ a, Aq = some a → a.block ≠ R := fun a ha h => by
      have := hfq a.block ⟨a, ha, rfl⟩
      omega
    have HBRq := Lib.hid (HBR.out.frm hsq id)
    have HSq := Lib.hid (HS1.out.trans hsq (fun _ _ h => h))
    have hfq' : Fresh w.heap.size Aq := fun b hb => by have := hfq b hb; have := HS1.out.size; omega
    have HOQ := Lib.hid hoq
    have HFQ := Lib.hid hfq'
    have hcR0 : w4.cell? ⟨R, 0, none⟩ = some (.int .i64 0) := HBRq.out.cell 0
    have hcR1 : w4.cell? ⟨R, 1, none⟩ = some (.slice none 0 0) := HBRq.out.cell 1
    have hfR0 := HBRq.out.free 0
    have hfR1 := HBRq.out.free 1
    have hlR := HBRq.out.lt
    clear hNT hoq hfq hsq hfq'
    go_wp2
    refine wp_post fun we hwe => ?_
    have hBE : Blk we R 24 #[.int .i64 n, .slice Aq (tab n (binF op wsa wsb)).length Cq] := by
      rw [hwe]
      have := (HBRq.out.set 0 (.int .i64 n)).set 1 (.slice Aq (tab n (binF op wsa wsb)).length Cq)
      simpa using this
    have hSE : Same w we := by rw [hwe]; exact (HSq.out.setNew 0 _ leR).setNew 1 _ leR
    have hOE : OwnW we Aq (tab n (binF op wsa wsb)).length Cq (tab n (binF op wsa wsb)) := by
      rw [hwe]
      exact (Own.far (p := ⟨R, 0, none⟩) HOQ.out hRq _).far (p := ⟨R, 1, none⟩) hRq _
    have hr0 : we.cell? ⟨R, 0, none⟩ = some (.int .i64 n) := hBE.cell 0
    have hr1 : we.cell? ⟨R, 1, none⟩ = some (.slice Aq (tab n (binF op wsa wsb)).length Cq) := hBE.cell 1
    clear hwe hBE
    refine bodyPost_ret (v := .tuple #[.agg #[.int .i64 n, .slice Aq (tab n (binF op wsa wsb)).length Cq], .int .i64 0]) (by simp [results, Try.results31, go_sem, hr0, hr1]) rfl ?_
    exact ⟨Aq, Cq, rfl, hOE, HFQ.out, hSE⟩
end Go.Proofs.Ytlggmoghgoeiiaa
