/- Truth tables: Const and Var of the program. -/
import Derived.Test.YtlggmoghgoeiiaaTrCol
import Derived.Shelf.Abstract
namespace Go.Proofs.Ytlggmoghgoeiiaa
open Go.RowKit Go.Tk

theorem var1_any (i v B : Nat) (w : World) (hv : v < 16) (hi : i < 1024) (hc : w.cell? ⟨B, 0, none⟩ = some (.int .i64 v)) :
    Calls Try.prog 66 #[.int .i64 i, .pointer (some ⟨B, 0, none⟩)] w fun e w' => e = .returned (.int .u64 (colN v i : Nat)) ∧ w = w' := by
  go_enter Try.func66, Try.ntmps66
  go_wp2_with (fail)
  refine (column_any v i w hv hi).mono ?_
  rintro e w2 ⟨rfl, rfl⟩
  go_wp2
  go_ret
  exact ⟨rfl, rfl⟩
theorem const1_any (i B : Nat) (b : Bool) (w : World) (hc : w.cell? ⟨B, 0, none⟩ = some (.bool b)) :
    Calls Try.prog 64 #[.int .i64 i, .pointer (some ⟨B, 0, none⟩)] w fun e w' => e = .returned (.int .u64 ((if b then 18446744073709551615 else 0 : Nat) : Nat)) ∧ w = w' := by
  cases b
  · go_enter Try.func64, Try.ntmps64
    go_wp2
    go_ret
    exact ⟨rfl, rfl⟩
  · go_enter Try.func64, Try.ntmps64
    go_wp2
    go_ret
    exact ⟨rfl, rfl⟩
/-- the words laid for a function -/
theorem laid_tab {n : Nat} {g : Nat → Nat} {F : Nat → Bool} (h : ∀ k, k < nw n → ∀ j, j < 64 → 64 * k + j < 2 ^ n → (g k).testBit j = F (64 * k + j)) : ((List.range (nw n)).map fun i => g i &&& fullN n) = tab n F := by
  unfold tab
  apply List.map_congr_left
  intro k hk
  exact word_laid (List.mem_range.1 hk) (h k (List.mem_range.1 hk))
/-- the answer: the table where there is no error -/
def ansN (n : Int) (e : Int) : Int := if e = 0 then n else 0
def ansL (ws : List Nat) (e : Int) : List Nat := if e = 0 then ws else []
/-- a call that answers a table and an error -/
def RetA (w : World) (n : Int) (ws : List Nat) (err : Int) : Ending → World → Prop := RetTE w (ansN n err) (ansL ws err) err
def varE (n v : Int) : Int := if cntE n ≠ 0 then cntE n else if v < 0 ∨ n ≤ v then 2 else 0
def varF (v : Nat) : Nat → Bool := fun i => i.testBit v
theorem cntE_ok {n : Int} (h : cntE n = 0) : 0 ≤ n ∧ n ≤ 16 := by
  unfold cntE at h
  split at h
  · cases h
  · split at h
    · cases h
    · omega

set_option maxHeartbeats 2000000 in
theorem Var_any (n v : Int) (w : World) : Calls Try.prog 27 #[.int .i64 n, .int .i64 v] w (RetA w n (tab n.toNat (varF v.toNat)) (varE n v)) := by
  have hmf : ∀ (fn : Fn) (first cap : Array Value) (w : World), (Instr.makeFunc fn first cap).run Try.prog w = .ok (.func fn first cap) w := fun _ _ _ _ => rfl
  have hct := fun w => count_any n w
  obtain ⟨c, hc⟩ : ∃ c, cntE n = c := ⟨_, rfl⟩
  rw [hc] at hct
  have HCT := Lib.hid hct
  clear hct
  by_cases h0 : ¬ c = 0
  · have he : varE n v = c := by unfold varE; rw [hc, if_pos h0]
    have h0' : (c != 0) = true := by simpa using h0
    unfold RetA
    rw [he, show ansN n c = 0 by unfold ansN; rw [if_neg h0], show ansL (tab n.toNat (varF v.toNat)) c = [] by unfold ansL; rw [if_neg h0]]
    clear he hc h0 hmf
    go_enter Try.func27, Try.ntmps27
    go_upto_region 1 with fail
    refine wp_world fun w1 hw1 => ?_
    have hs1 : Same w w1 := by rw [hw1]; exact ((Frm.refl _ _).alloc _).alloc _
    have hBB : Blk w1 (w.heap.size) 3 #[.int .i64 v] := by
      rw [hw1]
      have := ((Blk.new w 3 #[.int .i64 v]).alloc (.cells #[.int .i64 0, .slice none 0 0] 24))
      simpa using this
    have hBR : Blk w1 (w.heap.size + 1) 24 #[.int .i64 0, .slice none 0 0] := by
      rw [hw1]
      have := (Blk.new (w.alloc (.cells #[.int .i64 v] 3)) 24 #[.int .i64 0, .slice none 0 0])
      simpa using this
    clear hw1
    obtain ⟨R, hR⟩ : ∃ b, w.heap.size + 1 = b := ⟨_, rfl⟩
    rw [hR] at hBR ⊢
    have leR : w.heap.size ≤ R := by omega
    have neBR : w.heap.size ≠ R := by omega
    clear hR
    have cB0 : w1.cell? ⟨w.heap.size, 0, none⟩ = some (.int .i64 v) := hBB.cell 0
    have lB := hBB.lt
    have fB0 := hBB.free 0
    have HBB := Lib.hid hBB
    have cR0 : w1.cell? ⟨R, 0, none⟩ = some (.int .i64 0) := hBR.cell 0
    have cR1 : w1.cell? ⟨R, 1, none⟩ = some (.slice none 0 0) := hBR.cell 1
    have lR := hBR.lt
    have fR0 := hBR.free 0
    have fR1 := hBR.free 1
    have HBR := Lib.hid hBR
    have HS1 := Lib.hid hs1
    clear hs1 hBB hBR
    go_wp2_with (fail)
    refine (HCT.out w1).mono ?_
    rintro e w2 ⟨rfl, rfl⟩
    go_wp2
    refine wp_post fun we hwe => ?_
    have hBE : Blk we R 24 #[.int .i64 0, .slice none 0 0] := by
      rw [hwe]
      have := (HBR.out.set 0 (.int .i64 0)).set 1 (.slice none 0 0)
      simpa using this
    have hSE : Same w we := by rw [hwe]; exact (HS1.out.setNew 0 _ leR).setNew 1 _ leR
    have hr0 : we.cell? ⟨R, 0, none⟩ = some (.int .i64 0) := hBE.cell 0
    have hr1 : we.cell? ⟨R, 1, none⟩ = some (.slice none 0 0) := hBE.cell 1
    clear hwe hBE
    refine bodyPost_ret (v := .tuple #[.agg #[.int .i64 0, .slice none 0 0], .int .i64 c]) (by simp [results, Try.results27, go_sem, hr0, hr1]) rfl ?_
    exact ⟨none, 0, rfl, NewT.nil hSE⟩
  replace h0 : c = 0 := by omega
  subst h0
  obtain ⟨hn0, hn16⟩ := cntE_ok hc
  obtain ⟨N, rfl⟩ := Int.eq_ofNat_of_zero_le hn0
  have hn : N ≤ 16 := by omega
  by_cases h1 : v < 0 ∨ (N : Int) ≤ v
  · have he : varE N v = 2 := by unfold varE; rw [hc, if_neg (by simp), if_pos h1]
    unfold RetA
    rw [he, show ansN N 2 = 0 from rfl, show ansL (tab (N : Int).toNat (varF v.toNat)) 2 = [] from rfl]
    clear he hc hmf
    by_cases h2 : v < 0
    · clear h1
      go_enter Try.func27, Try.ntmps27
      go_upto_region 1 with fail
      refine wp_world fun w1 hw1 => ?_
      have hs1 : Same w w1 := by rw [hw1]; exact ((Frm.refl _ _).alloc _).alloc _
      have hBB : Blk w1 (w.heap.size) 3 #[.int .i64 v] := by
        rw [hw1]
        have := ((Blk.new w 3 #[.int .i64 v]).alloc (.cells #[.int .i64 0, .slice none 0 0] 24))
        simpa using this
      have hBR : Blk w1 (w.heap.size + 1) 24 #[.int .i64 0, .slice none 0 0] := by
        rw [hw1]
        have := (Blk.new (w.alloc (.cells #[.int .i64 v] 3)) 24 #[.int .i64 0, .slice none 0 0])
        simpa using this
      clear hw1
      obtain ⟨R, hR⟩ : ∃ b, w.heap.size + 1 = b := ⟨_, rfl⟩
      rw [hR] at hBR ⊢
      have leR : w.heap.size ≤ R := by omega
      have neBR : w.heap.size ≠ R := by omega
      clear hR
      have cB0 : w1.cell? ⟨w.heap.size, 0, none⟩ = some (.int .i64 v) := hBB.cell 0
      have lB := hBB.lt
      have fB0 := hBB.free 0
      have HBB := Lib.hid hBB
      have cR0 : w1.cell? ⟨R, 0, none⟩ = some (.int .i64 0) := hBR.cell 0
      have cR1 : w1.cell? ⟨R, 1, none⟩ = some (.slice none 0 0) := hBR.cell 1
      have lR := hBR.lt
      have fR0 := hBR.free 0
      have fR1 := hBR.free 1
      have HBR := Lib.hid hBR
      have HS1 := Lib.hid hs1
      clear hs1 hBB hBR
      go_wp2_with (fail)
      refine (HCT.out w1).mono ?_
      rintro e w2 ⟨rfl, rfl⟩
      go_wp2
      refine wp_post fun we hwe => ?_
      have hBE : Blk we R 24 #[.int .i64 0, .slice none 0 0] := by
        rw [hwe]
        have := (HBR.out.set 0 (.int .i64 0)).set 1 (.slice none 0 0)
        simpa using this
      have hSE : Same w we := by rw [hwe]; exact (HS1.out.setNew 0 _ leR).setNew 1 _ leR
      have hr0 : we.cell? ⟨R, 0, none⟩ = some (.int .i64 0) := hBE.cell 0
      have hr1 : we.cell? ⟨R, 1, none⟩ = some (.slice none 0 0) := hBE.cell 1
      clear hwe hBE
      refine bodyPost_ret (v := .tuple #[.agg #[.int .i64 0, .slice none 0 0], .int .i64 2]) (by simp [results, Try.results27, go_sem, hr0, hr1]) rfl ?_
      exact ⟨none, 0, rfl, NewT.nil hSE⟩
    · have h3 : v ≥ (N : Int) := by omega
      clear h1
      go_enter Try.func27, Try.ntmps27
      go_upto_region 1 with fail
      refine wp_world fun w1 hw1 => ?_
      have hs1 : Same w w1 := by rw [hw1]; exact ((Frm.refl _ _).alloc _).alloc _
      have hBB : Blk w1 (w.heap.size) 3 #[.int .i64 v] := by
        rw [hw1]
        have := ((Blk.new w 3 #[.int .i64 v]).alloc (.cells #[.int .i64 0, .slice none 0 0] 24))
        simpa using this
      have hBR : Blk w1 (w.heap.size + 1) 24 #[.int .i64 0, .slice none 0 0] := by
        rw [hw1]
        have := (Blk.new (w.alloc (.cells #[.int .i64 v] 3)) 24 #[.int .i64 0, .slice none 0 0])
        simpa using this
      clear hw1
      obtain ⟨R, hR⟩ : ∃ b, w.heap.size + 1 = b := ⟨_, rfl⟩
      rw [hR] at hBR ⊢
      have leR : w.heap.size ≤ R := by omega
      have neBR : w.heap.size ≠ R := by omega
      clear hR
      have cB0 : w1.cell? ⟨w.heap.size, 0, none⟩ = some (.int .i64 v) := hBB.cell 0
      have lB := hBB.lt
      have fB0 := hBB.free 0
      have HBB := Lib.hid hBB
      have cR0 : w1.cell? ⟨R, 0, none⟩ = some (.int .i64 0) := hBR.cell 0
      have cR1 : w1.cell? ⟨R, 1, none⟩ = some (.slice none 0 0) := hBR.cell 1
      have lR := hBR.lt
      have fR0 := hBR.free 0
      have fR1 := hBR.free 1
      have HBR := Lib.hid hBR
      have HS1 := Lib.hid hs1
      clear hs1 hBB hBR
      go_wp2_with (fail)
      refine (HCT.out w1).mono ?_
      rintro e w2 ⟨rfl, rfl⟩
      go_wp2
      refine wp_post fun we hwe => ?_
      have hBE : Blk we R 24 #[.int .i64 0, .slice none 0 0] := by
        rw [hwe]
        have := (HBR.out.set 0 (.int .i64 0)).set 1 (.slice none 0 0)
        simpa using this
      have hSE : Same w we := by rw [hwe]; exact (HS1.out.setNew 0 _ leR).setNew 1 _ leR
      have hr0 : we.cell? ⟨R, 0, none⟩ = some (.int .i64 0) := hBE.cell 0
      have hr1 : we.cell? ⟨R, 1, none⟩ = some (.slice none 0 0) := hBE.cell 1
      clear hwe hBE
      refine bodyPost_ret (v := .tuple #[.agg #[.int .i64 0, .slice none 0 0], .int .i64 2]) (by simp [results, Try.results27, go_sem, hr0, hr1]) rfl ?_
      exact ⟨none, 0, rfl, NewT.nil hSE⟩
  · obtain ⟨V, rfl⟩ : ∃ V : Nat, v = V := ⟨v.toNat, by omega⟩
    have hV : V < N := by omega
    have h2 : ¬ (V : Int) < 0 := by omega
    have h3 : ¬ (V : Int) ≥ N := by omega
    have he : varE N V = 0 := by unfold varE; rw [hc, if_neg (by simp), if_neg h1]
    unfold RetA
    rw [he, show ansN N 0 = N from rfl, show ansL (tab (N : Int).toNat (varF (V : Int).toNat)) 0 = tab N (varF V) from rfl]
    have HTB := Lib.hid (laid_tab (n := N) (g := colN V) (F := varF V) fun k _ j hj _ => colN_bit hj)
    have hen : ∀ (args : Array Value) (w : World), (callFunc 66 args).run Try.prog w = .ok (.enter 66 args) w := enters_of Try.func66 (by kernel_rfl) rfl
    have HEN := Lib.hid hen
    clear he hc h1 hen
    go_enter Try.func27, Try.ntmps27
    go_upto_region 1 with fail
    refine wp_world fun w1 hw1 => ?_
    have hs1 : Same w w1 := by rw [hw1]; exact ((Frm.refl _ _).alloc _).alloc _
    have hBB : Blk w1 (w.heap.size) 3 #[.int .i64 V] := by
      rw [hw1]
      have := ((Blk.new w 3 #[.int .i64 V]).alloc (.cells #[.int .i64 0, .slice none 0 0] 24))
      simpa using this
    have hBR : Blk w1 (w.heap.size + 1) 24 #[.int .i64 0, .slice none 0 0] := by
      rw [hw1]
      have := (Blk.new (w.alloc (.cells #[.int .i64 V] 3)) 24 #[.int .i64 0, .slice none 0 0])
      simpa using this
    clear hw1
    obtain ⟨R, hR⟩ : ∃ b, w.heap.size + 1 = b := ⟨_, rfl⟩
    rw [hR] at hBR ⊢
    have leR : w.heap.size ≤ R := by omega
    have neBR : w.heap.size ≠ R := by omega
    clear hR
    have cB0 : w1.cell? ⟨w.heap.size, 0, none⟩ = some (.int .i64 V) := hBB.cell 0
    have lB := hBB.lt
    have fB0 := hBB.free 0
    have HBB := Lib.hid hBB
    have cR0 : w1.cell? ⟨R, 0, none⟩ = some (.int .i64 0) := hBR.cell 0
    have cR1 : w1.cell? ⟨R, 1, none⟩ = some (.slice none 0 0) := hBR.cell 1
    have lR := hBR.lt
    have fR0 := hBR.free 0
    have fR1 := hBR.free 1
    have HBR := Lib.hid hBR
    have HS1 := Lib.hid hs1
    clear hs1 hBB hBR
    have htl : (Tells w1 N 66 #[.pointer (some ⟨w.heap.size, 0, none⟩)] (colN V)) := fun i hi => ⟨colN_lt V i, fun w' hs' => by
      refine (var1_any i V w.heap.size w' (by omega) (by have := nw_le hn; omega) ((hs'.cell (p := ⟨w.heap.size, 0, none⟩) lB id).trans cB0)).mono ?_
      rintro e w'' ⟨rfl, rfl⟩
      exact ⟨rfl, Frm.refl _ _⟩⟩
    have HTL := Lib.hid htl
    clear htl
    go_wp2_with (fail)
    refine (HCT.out w1).mono ?_
    rintro e w2 ⟨rfl, rfl⟩
    go_wp2_with (fail)
    refine (laid_any N 66 #[.pointer (some ⟨w.heap.size, 0, none⟩)] (colN V) w1 hn HEN.out HTL.out).mono ?_
    rintro e w3 ⟨Aq, Cq, rfl, hNT⟩
    rw [HTB.out] at hNT ⊢
    have hoq := hNT.1
    have hfq := hNT.2.1
    have hsq := hNT.2.2
    have hRq : ∀ a, Aq = some a → a.block ≠ R := fun a ha h => by
      have := hfq a.block ⟨a, ha, rfl⟩
      omega
    have HBRq := Lib.hid (HBR.out.frm hsq id)
    have HSq := Lib.hid (HS1.out.trans hsq (fun _ _ h => h))
    have hfq' : Fresh w.heap.size Aq := fun b hb => by have := hfq b hb; have := HS1.out.size; omega
    have HOQ := Lib.hid hoq
    have HFQ := Lib.hid hfq'
    have hcR0 : w3.cell? ⟨R, 0, none⟩ = some (.int .i64 0) := HBRq.out.cell 0
    have hcR1 : w3.cell? ⟨R, 1, none⟩ = some (.slice none 0 0) := HBRq.out.cell 1
    have hfR0 := HBRq.out.free 0
    have hfR1 := HBRq.out.free 1
    have hlR := HBRq.out.lt
    clear hNT hoq hfq hsq hfq'
    go_wp2
    refine wp_post fun we hwe => ?_
    have hBE : Blk we R 24 #[.int .i64 N, .slice Aq (tab N (varF V)).length Cq] := by
      rw [hwe]
      have := (HBRq.out.set 0 (.int .i64 N)).set 1 (.slice Aq (tab N (varF V)).length Cq)
      simpa using this
    have hSE : Same w we := by rw [hwe]; exact (HSq.out.setNew 0 _ leR).setNew 1 _ leR
    have hOE : OwnW we Aq (tab N (varF V)).length Cq (tab N (varF V)) := by
      rw [hwe]
      exact (Own.far (p := ⟨R, 0, none⟩) HOQ.out hRq _).far (p := ⟨R, 1, none⟩) hRq _
    have hr0 : we.cell? ⟨R, 0, none⟩ = some (.int .i64 N) := hBE.cell 0
    have hr1 : we.cell? ⟨R, 1, none⟩ = some (.slice Aq (tab N (varF V)).length Cq) := hBE.cell 1
    clear hwe hBE
    refine bodyPost_ret (v := .tuple #[.agg #[.int .i64 N, .slice Aq (tab N (varF V)).length Cq], .int .i64 0]) (by simp [results, Try.results27, go_sem, hr0, hr1]) rfl ?_
    exact ⟨Aq, Cq, rfl, hOE, HFQ.out, hSE⟩
end Go.Proofs.Ytlggmoghgoeiiaa
