/- Contracts and plain laws, put together in one file. No condition. -/
import Derived.Test.YtlggmoghgoeiiaaJTruthMoves4
import Derived.Test.YtlggmoghgoeiiaaRows

/- Truth tables: Renamed of the program. -/
namespace Go.Tk
/-- which numbers stand among the first k -/
def seenL (xs : List Int) (k n : Nat) : List Bool := (List.range n).map fun j : Nat => decide ((j : Int) ∈ xs.take k)
theorem seenL_len (xs : List Int) (k n : Nat) : (seenL xs k n).length = n := by simp [seenL]
theorem seenL_get (xs : List Int) (k : Nat) {n j : Nat} (h : j < n) : (seenL xs k n)[j]? = some (decide ((j : Int) ∈ xs.take k)) := by simp [seenL, h]
theorem seenL_zero (xs : List Int) (n : Nat) : seenL xs 0 n = List.replicate n false := by
  apply List.ext_getElem?
  intro j
  rcases Nat.lt_or_ge j n with h | h
  · rw [seenL_get xs 0 h]; simp [h]
  · rw [List.getElem?_eq_none (by rw [seenL_len]; exact h), List.getElem?_eq_none (by simpa using h)]
theorem seenL_set {xs : List Int} {k n : Nat} {x : Nat} (h : xs[k]? = some (x : Int)) (hx : x < n) : (seenL xs k n).set x true = seenL xs (k + 1) n := by
  apply List.ext_getElem?
  intro j
  rcases Nat.lt_or_ge j n with hj | hj
  · rw [seenL_get xs (k + 1) hj, List.getElem?_set, seenL_len, seenL_get xs k hj, take_add1 h]
    split
    · rename_i he; subst he; simp
    · rename_i hne
      congr 1
      have : ¬ ((j : Int) = (x : Int)) := by omega
      simp [this]
  · rw [List.getElem?_eq_none (by simp [seenL_len, hj]), List.getElem?_eq_none (by rw [seenL_len]; exact hj)]
def GoodN (n : Nat) (xs : List Int) (k : Nat) : Prop := (∀ x, x ∈ xs.take k → 0 ≤ x ∧ x < n) ∧ (xs.take k).Nodup
theorem GoodN.next {n : Nat} {xs : List Int} {k : Nat} {x : Int} (h : GoodN n xs k) (hx : xs[k]? = some x) (h0 : 0 ≤ x) (h1 : x < n) (hn : x ∉ xs.take k) : GoodN n xs (k + 1) := by
  unfold GoodN
  rw [take_add1 hx]
  refine ⟨fun y hy => ?_, ?_⟩
  · rcases List.mem_append.1 hy with hy | hy
    · exact h.1 y hy
    · simp at hy; subst hy; exact ⟨h0, h1⟩
  · rw [List.nodup_append]
    exact ⟨h.2, by simp, fun a ha b hb => by simp at hb; subst hb; rintro rfl; exact hn ha⟩
theorem prmB_range {n : Nat} {xs : List Int} {k : Nat} {x : Int} (hx : xs[k]? = some x) (h : x < 0 ∨ (n : Int) ≤ x) : prmB n xs = false := by
  cases hp : prmB n xs with
  | false => rfl
  | true =>
    have h1 := prmB_true.1 hp
    have h2 := h1.perm.1 x (List.mem_of_getElem? hx)
    rw [h1.len] at h2
    omega
theorem prmB_dup {n : Nat} {xs : List Int} {k : Nat} {x : Int} (hx : xs[k]? = some x) (h : x ∈ xs.take k) : prmB n xs = false := by
  cases hp : prmB n xs with
  | false => rfl
  | true =>
    have h1 := prmB_true.1 hp
    have h3 : (xs.take (k + 1)).Nodup := h1.perm.2.sublist (List.take_sublist _ _)
    rw [take_add1 hx, List.nodup_append] at h3
    exact absurd rfl (h3.2.2 x h x (by simp))
theorem prmB_good {n : Nat} {xs : List Int} (h : GoodN n xs xs.length) (hl : xs.length = n) : PermN n xs := by
  unfold GoodN at h
  rw [List.take_length] at h
  exact ⟨hl, fun x hx => by rw [hl]; exact h.1 x hx, h.2⟩
theorem prmB_len {n : Nat} {xs : List Int} (h : xs.length ≠ n) : prmB n xs = false := by
  cases hp : prmB n xs with
  | false => rfl
  | true => exact absurd (prmB_true.1 hp).len h
theorem ren_zero (n : Nat) (p : List Int) (ws : List Nat) : ((List.range (nw n)).map fun _ => 0 &&& fullN n) = tab n (renP n p ws 0) := by
  unfold tab
  apply List.map_congr_left
  intro k _
  rw [Nat.zero_and]
  symm
  unfold word
  have : ∀ m, bsum (fun j => decide (64 * k + j < 2 ^ n) && renP n p ws 0 (64 * k + j)) m = 0 := by
    intro m
    induction m with
    | zero => rfl
    | succ m ih => rw [bsum, ih, renP_zero]; simp
  exact this 64
end Go.Tk
namespace Go.Proofs.Ytlggmoghgoeiiaa
open Go.RowKit Go.Tk

theorem mul_le16 {b u : Nat} (hb : b < 2) (hu : u < 16) : b * 2 ^ u ≤ 65536 := by
  have hpu : 2 ^ u ≤ 65536 := pow_le16 (show u ≤ 16 by omega)
  have h01 : b = 0 ∨ b = 1 := by omega
  rcases h01 with rfl | rfl
  · rw [Nat.zero_mul]; exact Nat.zero_le _
  · rw [Nat.one_mul]; exact hpu
theorem step_i {k m u s t : Nat} (hk : k < 65536) (hu : u < 16) (hs : s < 65536) (ht : s ||| (k / 2 ^ m % 2) * 2 ^ u = t) : ∃ q b c : Nat, (k : Int) / 2 ^ m = (q : Int) ∧ bits .and .i64 (q : Int) 1 = (b : Int) ∧ wrap64 ((b : Int) * 2 ^ u) = (c : Int) ∧ IntKind.i64.wrap ((b : Int) * 2 ^ u) = (c : Int) ∧ bits .or .i64 (s : Int) (c : Int) = (t : Int) ∧ c ≤ 65536 ∧ b < 2 ∧ q < 65536 ∧ (b : Int) * 2 ^ u = (c : Int) := by
  have hqk : k / 2 ^ m ≤ k := Nat.div_le_self _ _
  have hd2 := i64_and_nat (k / 2 ^ m) 1 (by omega) (by omega)
  rw [nat_mask1] at hd2
  have hb2 : k / 2 ^ m % 2 < 2 := Nat.mod_lt _ (by omega)
  have hc := mul_le16 hb2 hu
  have hmul : ((k / 2 ^ m % 2 : Nat) : Int) * 2 ^ u = (((k / 2 ^ m % 2) * 2 ^ u : Nat) : Int) := by rw [pow_int, ← Int.natCast_mul]
  refine ⟨k / 2 ^ m, k / 2 ^ m % 2, (k / 2 ^ m % 2) * 2 ^ u, by rw [pow_int]; exact (Int.natCast_ediv _ _).symm, hd2, ?_, ?_, ?_, hc, hb2, by omega, hmul⟩
  · rw [hmul]
    generalize (k / 2 ^ m % 2) * 2 ^ u = c at hc
    exact IntWalk.wrap64_in _ (by omega)
  · rw [hmul]
    generalize (k / 2 ^ m % 2) * 2 ^ u = c at hc
    exact IntWalk.i64_in _ (by omega)
  · rw [← ht]
    generalize (k / 2 ^ m % 2) * 2 ^ u = c at hc
    exact i64_or_nat s c (by omega) (by omega)
theorem step_w {x y r1 r2 : Nat} {v : Bool} (hx : x < 18446744073709551616) (hy : y < 18446744073709551616) (hr : r2 < 64) (hv : v = y.testBit r1) :
    ∃ z b c : Nat, (y : Int) / 2 ^ r1 = (z : Int) ∧ bits .and .u64 (z : Int) 1 = (b : Int) ∧ IntKind.u64.wrap ((b : Int) * 2 ^ r2) = (c : Int) ∧ bits .or .u64 (x : Int) (c : Int) = ((x ||| (if v then 1 else 0) * 2 ^ r2 : Nat) : Int) ∧ b < 2 ∧ z < 18446744073709551616 ∧ c < 18446744073709551616 := by
  have hyq : y / 2 ^ r1 ≤ y := Nat.div_le_self _ _
  have hbit : y / 2 ^ r1 % 2 = if v then 1 else 0 := by
    rw [hv, Nat.testBit_eq_decide_div_mod_eq]
    rcases Nat.mod_two_eq_zero_or_one (y / 2 ^ r1) with h | h <;> rw [h] <;> rfl
  have hb1 : (if v then 1 else 0) < 2 := by split <;> omega
  have he2 := u64_and_nat (y / 2 ^ r1) 1 (by omega) (by omega)
  rw [nat_mask1, hbit] at he2
  have hpr : 2 ^ r2 ≤ 9223372036854775808 := show 2 ^ r2 ≤ 2 ^ 63 from Nat.pow_le_pow_right (by omega) (by omega)
  have hbp : (if v then 1 else 0) * 2 ^ r2 ≤ 9223372036854775808 := by
    cases v
    · rw [if_neg (by decide), Nat.zero_mul]; exact Nat.zero_le _
    · rw [if_pos rfl, Nat.one_mul]; exact hpr
  refine ⟨y / 2 ^ r1, if v then 1 else 0, (if v then 1 else 0) * 2 ^ r2, by rw [pow_int]; exact (Int.natCast_ediv _ _).symm, he2, ?_, ?_, hb1, by omega, by omega⟩
  · rw [pow_int, ← Int.natCast_mul]
    generalize (if v then 1 else 0) * 2 ^ r2 = bp at hbp
    exact IntWalk.u64_in _ (by omega)
  · generalize (if v then 1 else 0) * 2 ^ r2 = bp at hbp
    exact u64_or_nat x bp hx (by omega)
theorem dm64 (k : Nat) : (k : Int) / 64 = ((k / 64 : Nat) : Int) ∧ (k : Int) % 64 = ((k % 64 : Nat) : Int) ∧ k % 64 < 64 ∧ min (k % 64) 64 = k % 64 ∧ (0 : Int) ≤ ((k / 64 : Nat) : Int) := by
  refine ⟨by omega, by omega, by omega, by omega, by omega⟩
theorem ren1_any (i : Nat) (w : World) : Calls Try.prog 73 #[.int .i64 i] w fun e w' => e = .returned (.int .u64 ((0 : Nat) : Int)) ∧ w = w' := by
  go_enter Try.func73, Try.ntmps73
  go_wp2
  go_ret
  exact ⟨rfl, rfl⟩
set_option maxRecDepth 100000 in
set_option maxHeartbeats 16000000 in
theorem Renamed_any (Na : Int) (Aa : Option Addr) (Ca : Nat) (wsa : List Nat) (Ap : Option Addr) (Lp Cp : Nat) (p : List Int) (w : World) (h : TbOk w ⟨Na, Aa, Ca, wsa⟩) (hp : IL w Ap Lp p) (hLp : Lp ≤ 1000000000000000000) : Calls Try.prog 38 #[.agg #[.int .i64 Na, .slice Aa wsa.length Ca], .slice Ap Lp Cp] w (RetA w Na (tab Na.toNat (renF Na.toNat p wsa)) (rnE Na p wsa)) := by
  have H := Lib.hid h
  have HP := Lib.hid hp
  unfold rnE
  cases hfr : frm Na wsa with
  | false =>
    rw [if_neg (by decide)]
    unfold RetA
    rw [show ansN Na 5 = 0 from rfl, show ansL (tab Na.toNat (renF Na.toNat p wsa)) 5 = [] from rfl]
    have HFM := Lib.hid ((frm_one Na Aa Ca wsa).trans hfr)
    clear hfr hp h
    go_enter Try.func38, Try.ntmps38
    go_upto_region 1 with fail
    refine wp_world fun w1 hw1 => ?_
    have hs1 : Same w w1 := by rw [hw1]; exact ((Frm.refl _ _).alloc _).alloc _
    have hBXa : Blk w1 (w.heap.size) 24 #[.int .i64 Na, .slice Aa wsa.length Ca] := by
      rw [hw1]
      have := ((Blk.new w 24 #[.int .i64 Na, .slice Aa wsa.length Ca]).alloc (.cells #[.int .i64 0, .slice none 0 0] 24))
      simpa using this
    have hBR : Blk w1 (w.heap.size + 1) 24 #[.int .i64 0, .slice none 0 0] := by
      rw [hw1]
      have := (Blk.new (w.alloc (.cells #[.int .i64 Na, .slice Aa wsa.length Ca] 24)) 24 #[.int .i64 0, .slice none 0 0])
      simpa using this
    clear hw1
    obtain ⟨R, hR⟩ : ∃ b, w.heap.size + 1 = b := ⟨_, rfl⟩
    rw [hR] at hBR ⊢
    have leR : w.heap.size ≤ R := by omega
    have neXaR : w.heap.size ≠ R := by omega
    clear hR
    have cXa0 : w1.cell? ⟨w.heap.size, 0, none⟩ = some (.int .i64 Na) := hBXa.cell 0
    have cXa1 : w1.cell? ⟨w.heap.size, 1, none⟩ = some (.slice Aa wsa.length Ca) := hBXa.cell 1
    have lXa := hBXa.lt
    have fXa0 := hBXa.free 0
    have fXa1 := hBXa.free 1
    have HBXa := Lib.hid hBXa
    have cR0 : w1.cell? ⟨R, 0, none⟩ = some (.int .i64 0) := hBR.cell 0
    have cR1 : w1.cell? ⟨R, 1, none⟩ = some (.slice none 0 0) := hBR.cell 1
    have lR := hBR.lt
    have fR0 := hBR.free 0
    have fR1 := hBR.free 1
    have HBR := Lib.hid hBR
    have HS1 := Lib.hid hs1
    clear hs1 hBXa hBR
    have HOKa := Lib.hid (H.out.same HS1.out)
    go_wp2_with (fail)
    refine call_world fun w2 hw2 => ?_
    have hs2 : Same w1 w2 := by rw [hw2]; exact (Frm.refl _ _).alloc _
    have hBL : Blk w2 w1.heap.size 24 #[.int .i64 Na, .slice Aa wsa.length Ca] := by rw [hw2]; exact Blk.new _ _ _
    have htbs : Tbs w2 w1.heap.size [⟨Na, Aa, Ca, wsa⟩] := by
      intro i t hi
      match i, hi with
      | 0, hi =>
        simp only [List.getElem?_cons_zero, Option.some.injEq] at hi
        subst hi
        exact ⟨hBL.lt, hBL.cell 0, hBL.cell 1⟩
      | i + 1, hi => simp at hi
    have hfc := form_any w1.heap.size 1 1 [⟨Na, Aa, Ca, wsa⟩] w2 rfl (by decide) htbs (fun t ht => by
      simp only [List.mem_cons, List.not_mem_nil, or_false] at ht
      rcases ht with rfl
      · exact (HOKa.out).same hs2)
    rw [HFM.out] at hfc
    refine hfc.mono ?_
    clear hfc htbs hBL hw2
    rintro e w3 ⟨rfl, hs3⟩
    have hs13 : Same w1 w3 := hs2.trans hs3 (fun _ _ h => h)
    clear hs2 hs3
    replace HBXa := Lib.hid (HBXa.out.frm hs13 id)
    replace cXa0 : w3.cell? ⟨w.heap.size, 0, none⟩ = some (.int .i64 Na) := HBXa.out.cell 0
    replace cXa1 : w3.cell? ⟨w.heap.size, 1, none⟩ = some (.slice Aa wsa.length Ca) := HBXa.out.cell 1
    replace lXa := HBXa.out.lt
    replace fXa0 := HBXa.out.free 0
    replace fXa1 := HBXa.out.free 1
    replace HBR := Lib.hid (HBR.out.frm hs13 id)
    replace cR0 : w3.cell? ⟨R, 0, none⟩ = some (.int .i64 0) := HBR.out.cell 0
    replace cR1 : w3.cell? ⟨R, 1, none⟩ = some (.slice none 0 0) := HBR.out.cell 1
    replace lR := HBR.out.lt
    replace fR0 := HBR.out.free 0
    replace fR1 := HBR.out.free 1
    replace HS1 := Lib.hid (HS1.out.trans hs13 (fun _ _ h => h))
    clear hs13
    go_wp2
    refine wp_post fun we hwe => ?_
    have hBE : Blk we R 24 #[.int .i64 0, .slice none 0 0] := by
      rw [hwe]
      have := (HBR.out.set 0 (.int .i64 0)).set 1 (.slice none 0 0)
      simpa using this
    have hSE : Same w we := by rw [hwe]; exact (HS1.out.setNew 0 _ leR).setNew 1 _ leR
    have hr0 : we.cell? ⟨R, 0, none⟩ = some (.int .i64 0) := hBE.cell 0
    have hr1 : we.cell? ⟨R, 1, none⟩ = some (.slice none 0 0) := hBE.cell 1
    clear hwe hBE
    refine bodyPost_ret (v := .tuple #[.agg #[.int .i64 0, .slice none 0 0], .int .i64 5]) (by simp [results, Try.results38, go_sem, hr0, hr1]) rfl ?_
    exact ⟨none, 0, rfl, NewT.nil hSE⟩
  | true =>
    rw [if_pos rfl]
    obtain ⟨n, rfl, hform⟩ := frm_true hfr
    have HFM := Lib.hid ((frm_one n Aa Ca wsa).trans hfr)
    have hn := hform.n16
    rw [Int.toNat_natCast]
    have hpl := hp.len
    have hmk := fun w => run_make_n (P := Try.prog) Try.underlying26 info_bool .i64 .i64 n (show 1 * n ≤ 281474976710656 by omega) (show n ≤ 9223372036854775807 by omega) w
    obtain ⟨err, herr⟩ : ∃ e : Int, (if prmB n p = true then (0 : Int) else 4) = e := ⟨_, rfl⟩
    rw [herr]
    have HERR := Lib.hid herr
    have HPL := Lib.hid hpl
    have HFa := Lib.hid hform
    clear hfr hp h hpl herr hform
    unfold RetA
    go_enter Try.func38, Try.ntmps38
    go_upto_region 1 with fail
    refine wp_world fun w1 hw1 => ?_
    have hs1 : Same w w1 := by rw [hw1]; exact ((Frm.refl _ _).alloc _).alloc _
    have hBXa : Blk w1 (w.heap.size) 24 #[.int .i64 n, .slice Aa wsa.length Ca] := by
      rw [hw1]
      have := ((Blk.new w 24 #[.int .i64 n, .slice Aa wsa.length Ca]).alloc (.cells #[.int .i64 0, .slice none 0 0] 24))
      simpa using this
    have hBR : Blk w1 (w.heap.size + 1) 24 #[.int .i64 0, .slice none 0 0] := by
      rw [hw1]
      have := (Blk.new (w.alloc (.cells #[.int .i64 n, .slice Aa wsa.length Ca] 24)) 24 #[.int .i64 0, .slice none 0 0])
      simpa using this
    clear hw1
    obtain ⟨R, hR⟩ : ∃ b, w.heap.size + 1 = b := ⟨_, rfl⟩
    rw [hR] at hBR ⊢
    have leR : w.heap.size ≤ R := by omega
    have neXaR : w.heap.size ≠ R := by omega
    clear hR
    have cXa0 : w1.cell? ⟨w.heap.size, 0, none⟩ = some (.int .i64 n) := hBXa.cell 0
    have cXa1 : w1.cell? ⟨w.heap.size, 1, none⟩ = some (.slice Aa wsa.length Ca) := hBXa.cell 1
    have lXa := hBXa.lt
    have fXa0 := hBXa.free 0
    have fXa1 := hBXa.free 1
    have HBXa := Lib.hid hBXa
    have cR0 : w1.cell? ⟨R, 0, none⟩ = some (.int .i64 0) := hBR.cell 0
    have cR1 : w1.cell? ⟨R, 1, none⟩ = some (.slice none 0 0) := hBR.cell 1
    have lR := hBR.lt
    have fR0 := hBR.free 0
    have fR1 := hBR.free 1
    have HBR := Lib.hid hBR
    have HS1 := Lib.hid hs1
    clear hs1 hBXa hBR
    have HOKa := Lib.hid (H.out.same HS1.out)
    go_wp2_with (fail)
    refine call_world fun w2 hw2 => ?_
    have hs2 : Same w1 w2 := by rw [hw2]; exact (Frm.refl _ _).alloc _
    have hBL : Blk w2 w1.heap.size 24 #[.int .i64 n, .slice Aa wsa.length Ca] := by rw [hw2]; exact Blk.new _ _ _
    have htbs : Tbs w2 w1.heap.size [⟨n, Aa, Ca, wsa⟩] := by
      intro i t hi
      match i, hi with
      | 0, hi =>
        simp only [List.getElem?_cons_zero, Option.some.injEq] at hi
        subst hi
        exact ⟨hBL.lt, hBL.cell 0, hBL.cell 1⟩
      | i + 1, hi => simp at hi
    have hfc := form_any w1.heap.size 1 1 [⟨n, Aa, Ca, wsa⟩] w2 rfl (by decide) htbs (fun t ht => by
      simp only [List.mem_cons, List.not_mem_nil, or_false] at ht
      rcases ht with rfl
      · exact (HOKa.out).same hs2)
    rw [HFM.out] at hfc
    refine hfc.mono ?_
    clear hfc htbs hBL hw2
    rintro e w3 ⟨rfl, hs3⟩
    have hs13 : Same w1 w3 := hs2.trans hs3 (fun _ _ h => h)
    clear hs2 hs3
    replace HBXa := Lib.hid (HBXa.out.frm hs13 id)
    replace cXa0 : w3.cell? ⟨w.heap.size, 0, none⟩ = some (.int .i64 n) := HBXa.out.cell 0
    replace cXa1 : w3.cell? ⟨w.heap.size, 1, none⟩ = some (.slice Aa wsa.length Ca) := HBXa.out.cell 1
    replace lXa := HBXa.out.lt
    replace fXa0 := HBXa.out.free 0
    replace fXa1 := HBXa.out.free 1
    replace HBR := Lib.hid (HBR.out.frm hs13 id)
    replace cR0 : w3.cell? ⟨R, 0, none⟩ = some (.int .i64 0) := HBR.out.cell 0
    replace cR1 : w3.cell? ⟨R, 1, none⟩ = some (.slice none 0 0) := HBR.out.cell 1
    replace lR := HBR.out.lt
    replace fR0 := HBR.out.free 0
    replace fR1 := HBR.out.free 1
    replace HS1 := Lib.hid (HS1.out.trans hs13 (fun _ _ h => h))
    clear hs13
    go_upto_region 4 with fail
    refine wp_world fun w5 hw5 => ?_
    have hsv : Same w3 w5 := by rw [hw5]; exact (Frm.refl _ _).alloc _
    have hOD : OwnB w5 (some ⟨w3.heap.size, 0, none⟩) n n (seenL p 0 n) := by
      rw [seenL_zero, hw5]
      have := Own.ofMade (m := 1) w3 4 (fun b : Bool => [.bool b]) (fun _ => rfl) (by decide) false n (show n ≤ 9223372036854775807 by omega) rfl
      simpa using this
    clear hw5 hmk
    obtain ⟨D, hD⟩ : ∃ D, w3.heap.size = D := ⟨_, rfl⟩
    rw [hD] at hOD ⊢
    have hneXaD : w.heap.size ≠ D := by have := HBXa.out.lt; omega
    have hneRD : R ≠ D := by have := HBR.out.lt; omega
    have hDn : w.heap.size ≤ D := by have := HS1.out.size; omega
    have HOD := Lib.hid hOD
    clear hD hOD
    replace HBXa := Lib.hid (HBXa.out.frm hsv id)
    replace cXa0 : w5.cell? ⟨w.heap.size, 0, none⟩ = some (.int .i64 n) := HBXa.out.cell 0
    replace cXa1 : w5.cell? ⟨w.heap.size, 1, none⟩ = some (.slice Aa wsa.length Ca) := HBXa.out.cell 1
    replace lXa := HBXa.out.lt
    replace fXa0 := HBXa.out.free 0
    replace fXa1 := HBXa.out.free 1
    replace HBR := Lib.hid (HBR.out.frm hsv id)
    replace cR0 : w5.cell? ⟨R, 0, none⟩ = some (.int .i64 0) := HBR.out.cell 0
    replace cR1 : w5.cell? ⟨R, 1, none⟩ = some (.slice none 0 0) := HBR.out.cell 1
    replace lR := HBR.out.lt
    replace fR0 := HBR.out.free 0
    replace fR1 := HBR.out.free 1
    replace HS1 := Lib.hid (HS1.out.trans hsv (fun _ _ h => h))
    clear hsv
    go_wp2
    go_loopw [24] (fun i wr => ∃ k : Nat, k ≤ Lp ∧ i = .int .i64 k ∧ GoodN n p k ∧ Same w wr ∧ Blk wr w.heap.size 24 #[.int .i64 n, .slice Aa wsa.length Ca] ∧ Blk wr R 24 #[.int .i64 0, .slice none 0 0] ∧ OwnB wr (some ⟨D, 0, none⟩) n n (seenL p k n)) (fun i _ => Lp - (intOf i).toNat)
    case atStart => exact ⟨0, by omega, rfl, ⟨by simp, by simp⟩, HS1.out, HBXa.out, HBR.out, HOD.out⟩
    case round =>
      obtain ⟨k, hk, rfl, hg, hs, hBXa, hBR, hOD⟩ := hrel
      replace HS1 := Lib.hid hs
      replace HBXa := Lib.hid hBXa
      replace HBR := Lib.hid hBR
      replace HOD := Lib.hid hOD
      have HG := Lib.hid hg
      clear cXa0 cXa1 fXa0 fXa1 lXa cR0 cR1 fR0 fR1 lR hs hBXa hBR hOD hg
      have cXa0 : wr.cell? ⟨w.heap.size, 0, none⟩ = some (.int .i64 n) := HBXa.out.cell 0
      have cXa1 : wr.cell? ⟨w.heap.size, 1, none⟩ = some (.slice Aa wsa.length Ca) := HBXa.out.cell 1
      have lXa := HBXa.out.lt
      have cR0 : wr.cell? ⟨R, 0, none⟩ = some (.int .i64 0) := HBR.out.cell 0
      have cR1 : wr.cell? ⟨R, 1, none⟩ = some (.slice none 0 0) := HBR.out.cell 1
      have lR := HBR.out.lt
      have fR0 := HBR.out.free 0
      have fR1 := HBR.out.free 1
      by_cases hlt : k < Lp
      · obtain ⟨x, hx⟩ : ∃ x, p[k]? = some x := ⟨_, List.getElem?_eq_getElem (by rw [← HPL.out]; exact hlt)⟩
        obtain ⟨bp, op, hA, hb, hc⟩ := (Sl.same HP.out HS1.out).at1 hx
        subst hA
        have hk0 : (0 : Int) ≤ k := by omega
        have hk1 : (k : Int) < Lp := by omega
        have HX := Lib.hid hx
        clear hx
        by_cases h0 : x < 0
        · have he : err = 4 := by rw [← HERR.out, prmB_range HX.out (.inl h0), if_neg (by decide)]
          subst he
          go_wp2
          refine wp_post fun we hwe => ?_
          have hBE : Blk we R 24 #[.int .i64 0, .slice none 0 0] := by
            rw [hwe]
            have := (HBR.out.set 0 (.int .i64 0)).set 1 (.slice none 0 0)
            simpa using this
          have hSE : Same w we := by rw [hwe]; exact (HS1.out.setNew 0 _ leR).setNew 1 _ leR
          have hr0 : we.cell? ⟨R, 0, none⟩ = some (.int .i64 0) := hBE.cell 0
          have hr1 : we.cell? ⟨R, 1, none⟩ = some (.slice none 0 0) := hBE.cell 1
          clear hwe hBE
          refine bodyPost_ret (v := .tuple #[.agg #[.int .i64 0, .slice none 0 0], .int .i64 4]) (by simp [results, Try.results38, go_sem, hr0, hr1]) rfl ?_
          exact ⟨none, 0, rfl, NewT.nil hSE⟩
        by_cases h1 : x ≥ n
        · have he : err = 4 := by rw [← HERR.out, prmB_range HX.out (.inr h1), if_neg (by decide)]
          subst he
          go_wp2
          refine wp_post fun we hwe => ?_
          have hBE : Blk we R 24 #[.int .i64 0, .slice none 0 0] := by
            rw [hwe]
            have := (HBR.out.set 0 (.int .i64 0)).set 1 (.slice none 0 0)
            simpa using this
          have hSE : Same w we := by rw [hwe]; exact (HS1.out.setNew 0 _ leR).setNew 1 _ leR
          have hr0 : we.cell? ⟨R, 0, none⟩ = some (.int .i64 0) := hBE.cell 0
          have hr1 : we.cell? ⟨R, 1, none⟩ = some (.slice none 0 0) := hBE.cell 1
          clear hwe hBE
          refine bodyPost_ret (v := .tuple #[.agg #[.int .i64 0, .slice none 0 0], .int .i64 4]) (by simp [results, Try.results38, go_sem, hr0, hr1]) rfl ?_
          exact ⟨none, 0, rfl, NewT.nil hSE⟩
        obtain ⟨y, rfl⟩ := Int.eq_ofNat_of_zero_le (show 0 ≤ x by omega)
        have hyl : y < n := by omega
        have hyl2 : (y : Int) < n := by omega
        have hy3 : ¬ n ≤ y := by omega
        have hgt := seenL_get p k hyl
        obtain ⟨sb, hsb, hsl, hsc⟩ := Own.at1 (c := fun b : Bool => .bool b) HOD.out hgt
        injection hsb with hsb
        injection hsb with hsb
        subst hsb
        have hfr := Own.free HOD.out y
        clear hgt
        by_cases hd : (y : Int) ∈ p.take k
        · have hd' : decide ((y : Int) ∈ p.take k) = true := by simpa using hd
          rw [hd'] at hsc
          have he : err = 4 := by rw [← HERR.out, prmB_dup HX.out hd, if_neg (by decide)]
          subst he
          clear hd hd'
          go_wp2
          refine wp_post fun we hwe => ?_
          have hBE : Blk we R 24 #[.int .i64 0, .slice none 0 0] := by
            rw [hwe]
            have := (HBR.out.set 0 (.int .i64 0)).set 1 (.slice none 0 0)
            simpa using this
          have hSE : Same w we := by rw [hwe]; exact (HS1.out.setNew 0 _ leR).setNew 1 _ leR
          have hr0 : we.cell? ⟨R, 0, none⟩ = some (.int .i64 0) := hBE.cell 0
          have hr1 : we.cell? ⟨R, 1, none⟩ = some (.slice none 0 0) := hBE.cell 1
          clear hwe hBE
          refine bodyPost_ret (v := .tuple #[.agg #[.int .i64 0, .slice none 0 0], .int .i64 4]) (by simp [results, Try.results38, go_sem, hr0, hr1]) rfl ?_
          exact ⟨none, 0, rfl, NewT.nil hSE⟩
        · have hd' : decide ((y : Int) ∈ p.take k) = false := by simpa using hd
          rw [hd'] at hsc
          have HD := Lib.hid hd
          clear hd hd'
          have hst := Own.put1 (c := fun b : Bool => .bool b) HOD.out (i := y) (by rw [seenL_len]; exact hyl) true
          rw [seenL_set HX.out hyl] at hst
          have HST := Lib.hid hst
          clear hst
          go_wp2
          go_roundw
          case rel => exact ⟨k + 1, by omega, by go_num, HG.out.next HX.out (by omega) (by omega) HD.out, HS1.out.setNew y _ hDn, HBXa.out.far (p := ⟨D, y, none⟩) hneXaD _, HBR.out.far (p := ⟨D, y, none⟩) hneRD _, HST.out⟩
          case measure => simp [intOf]; omega
      · obtain rfl : k = Lp := by omega
        by_cases hln : k ≠ n
        · have he : err = 4 := by rw [← HERR.out, prmB_len (by rw [← HPL.out]; exact hln), if_neg (by decide)]
          subst he
          have hln2 : (k : Int) ≠ n := by omega
          go_wp2
          refine wp_post fun we hwe => ?_
          have hBE : Blk we R 24 #[.int .i64 0, .slice none 0 0] := by
            rw [hwe]
            have := (HBR.out.set 0 (.int .i64 0)).set 1 (.slice none 0 0)
            simpa using this
          have hSE : Same w we := by rw [hwe]; exact (HS1.out.setNew 0 _ leR).setNew 1 _ leR
          have hr0 : we.cell? ⟨R, 0, none⟩ = some (.int .i64 0) := hBE.cell 0
          have hr1 : we.cell? ⟨R, 1, none⟩ = some (.slice none 0 0) := hBE.cell 1
          clear hwe hBE
          refine bodyPost_ret (v := .tuple #[.agg #[.int .i64 0, .slice none 0 0], .int .i64 4]) (by simp [results, Try.results38, go_sem, hr0, hr1]) rfl ?_
          exact ⟨none, 0, rfl, NewT.nil hSE⟩
        obtain rfl : n = k := by omega
        have hPN : PermN n p := prmB_good (by rw [← HPL.out]; exact HG.out) HPL.out.symm
        have he : err = 0 := by rw [← HERR.out, prmB_true.2 hPN, if_pos rfl]
        subst he
        rw [show ansN n 0 = n from rfl, show ansL (tab n (renF n p wsa)) 0 = tab n (renF n p wsa) from rfl]
        have hsgl := fun (j k : Nat) (h : k ≤ n) => sg_lt hPN j k h
        have hsgo := fun (j k : Nat) (h : k < n) => sg_or hPN j h
        have hpvl := fun (v : Nat) (h : v < n) => hPN.lt h
        have hp0 : ∀ x ∈ p, 0 ≤ x := fun x hx => (hPN.perm.1 x hx).1
        have hset := fun (k : Nat) (h : k < 2 ^ n) => ren_word (ws := wsa) hPN h
        have hfull : tab n (renP n p wsa (2 ^ n)) = tab n (renF n p wsa) := tab_congr fun i _ => renP_full i
        have hdl : ∀ i, i < 2 ^ n → i / 64 < nw n := fun i hi => div_lt_nw hi
        have hdl2 : ∀ i, i < 2 ^ n → ∃ x, wsa[i / 64]? = some x := fun i hi => ⟨_, List.getElem?_eq_getElem (by rw [HFa.out.len]; exact div_lt_nw hi)⟩
        have hsw := pow_lt_shift hn
        have hsw2 := pow_lt_shift2 hn
        have hp16 := pow_le16 hn
        have hn0 : (0 : Int) ≤ n := by omega
        have hmn : min n 64 = n := by omega
        have hen : ∀ (args : Array Value) (w : World), (callFunc 73 args).run Try.prog w = .ok (.enter 73 args) w := enters_of Try.func73 (by kernel_rfl) rfl
        have HEN := Lib.hid hen
        have htl : Tells wr n 73 #[] (fun _ => 0) := fun i hi => ⟨by show (0 : Nat) < 18446744073709551616; omega, fun w' hs' => by
          refine (ren1_any i w').mono ?_
          rintro e w'' ⟨rfl, rfl⟩
          exact ⟨rfl, Frm.refl _ _⟩⟩
        have HTL := Lib.hid htl
        have hmf : ∀ (fn : Fn) (first cap : Array Value) (w : World), (Instr.makeFunc fn first cap).run Try.prog w = .ok (.func fn first cap) w := fun _ _ _ _ => rfl
        obtain ⟨M, hM⟩ : ∃ M, 2 ^ n = M := ⟨_, rfl⟩
        rw [hM] at hsgl hset hfull hdl hdl2 hsw hsw2 hp16
        have HSG := Lib.hid hsgl
        have HSO := Lib.hid hsgo
        have HPV := Lib.hid hpvl
        have HP0 := Lib.hid hp0
        have HSET := Lib.hid hset
        have HFULL := Lib.hid hfull
        have HDL := Lib.hid hdl
        have HDL2 := Lib.hid hdl2
        clear hsgl hsgo hpvl hp0 hset hfull hdl hdl2 hen htl hM hPN
        go_wp2_with (fail)
        refine (laid_any n 73 #[] (fun _ => 0) wr hn HEN.out HTL.out).mono ?_
        rintro e w6 ⟨Aq, Cq, rfl, hNT⟩
        rw [ren_zero n p wsa] at hNT ⊢
        obtain ⟨sb, rfl, hsbl⟩ := Own.form1 hNT.1 (by rw [tab_len]; exact nw_pos n)
        have hsbn : wr.heap.size ≤ sb := hNT.2.1 sb ⟨_, rfl, rfl⟩
        have hOT := hNT.1
        have hsv := hNT.2.2
        rw [tab_len] at hOT ⊢
        obtain ⟨K, hK⟩ : ∃ K, nw n = K := ⟨_, rfl⟩
        rw [hK] at hOT HDL ⊢
        have hneXs : w.heap.size ≠ sb := by omega
        have hneRs : R ≠ sb := by omega
        have hsbW : w.heap.size ≤ sb := by omega
        have HOT := Lib.hid hOT
        have hKl : (ansL (tab n (renF n p wsa)) 0).length = K := by rw [show ansL (tab n (renF n p wsa)) 0 = tab n (renF n p wsa) from rfl, tab_len, hK]
        have HKL := Lib.hid hKl
        have hKn := fun k => (tab_len n (renP n p wsa k)).trans hK
        have HKN := Lib.hid hKn
        clear hNT hOT hK hKl hKn hneXaD hneRD hDn HOD
        replace HBXa := Lib.hid (HBXa.out.frm hsv id)
        replace HBR := Lib.hid (HBR.out.frm hsv id)
        replace HS1 := Lib.hid (HS1.out.trans hsv (fun _ _ h => h))
        clear cXa0 cXa1 lXa cR0 cR1 lR fR0 fR1
        have cXa0 : w6.cell? ⟨w.heap.size, 0, none⟩ = some (.int .i64 n) := HBXa.out.cell 0
        have cXa1 : w6.cell? ⟨w.heap.size, 1, none⟩ = some (.slice Aa wsa.length Ca) := HBXa.out.cell 1
        have lXa := HBXa.out.lt
        have cR0 : w6.cell? ⟨R, 0, none⟩ = some (.int .i64 0) := HBR.out.cell 0
        have cR1 : w6.cell? ⟨R, 1, none⟩ = some (.slice none 0 0) := HBR.out.cell 1
        have lR := HBR.out.lt
        have fR0 := HBR.out.free 0
        have fR1 := HBR.out.free 1
        go_upto_region 14 with fail
        refine wp_world fun w7 hw7 => ?_
        have hsv : Same w6 w7 := by rw [hw7]; exact (Frm.refl _ _).alloc _
        have hBT : Blk w7 w6.heap.size 24 #[.int .i64 n, .slice (some ⟨sb, 0, none⟩) K Cq] := by rw [hw7]; exact Blk.new _ _ _
        clear hw7
        replace HBXa := Lib.hid (HBXa.out.frm hsv id)
        replace HBR := Lib.hid (HBR.out.frm hsv id)
        replace HS1 := Lib.hid (HS1.out.trans hsv (fun _ _ h => h))
        replace HOT := Lib.hid (Own.frm HOT.out hsv (fun _ _ => id))
        obtain ⟨T, hT⟩ : ∃ b, w6.heap.size = b := ⟨_, rfl⟩
        rw [hT] at hBT ⊢
        have hneTs : T ≠ sb := by omega
        have HBT := Lib.hid hBT
        clear hT hBT hsv hsbl cXa0 cXa1 lXa cR0 cR1 lR fR0 fR1
        have cXa0 : w7.cell? ⟨w.heap.size, 0, none⟩ = some (.int .i64 n) := HBXa.out.cell 0
        have cXa1 : w7.cell? ⟨w.heap.size, 1, none⟩ = some (.slice Aa wsa.length Ca) := HBXa.out.cell 1
        have lXa := HBXa.out.lt
        have cR0 : w7.cell? ⟨R, 0, none⟩ = some (.int .i64 0) := HBR.out.cell 0
        have cR1 : w7.cell? ⟨R, 1, none⟩ = some (.slice none 0 0) := HBR.out.cell 1
        have lR := HBR.out.lt
        have fR0 := HBR.out.free 0
        have fR1 := HBR.out.free 1
        go_wp2
        go_loopw [59] (fun i wr => ∃ k : Nat, k ≤ M ∧ i = .int .i64 k ∧ Same w wr ∧ Blk wr w.heap.size 24 #[.int .i64 n, .slice Aa wsa.length Ca] ∧ Blk wr R 24 #[.int .i64 0, .slice none 0 0] ∧ Blk wr T 24 #[.int .i64 n, .slice (some ⟨sb, 0, none⟩) K Cq] ∧ OwnW wr (some ⟨sb, 0, none⟩) K Cq (tab n (renP n p wsa k))) (fun i _ => M - (intOf i).toNat)
        case atStart => exact ⟨0, by omega, rfl, HS1.out, HBXa.out, HBR.out, HBT.out, HOT.out⟩
        case round =>
          obtain ⟨k, hk, rfl, hs, hBXa, hBR, hBT, hOT⟩ := hrel
          replace HS1 := Lib.hid hs
          replace HBXa := Lib.hid hBXa
          replace HBR := Lib.hid hBR
          replace HBT := Lib.hid hBT
          replace HOT := Lib.hid hOT
          clear cXa0 cXa1 lXa cR0 cR1 lR fR0 fR1 hs hBXa hBR hBT hOT
          by_cases hltM : k < M
          · have hk0 : (0 : Int) ≤ k := by omega
            have hk1 : (k : Int) < M := by omega
            go_wp2
            refine wp_world fun wq hwq => ?_
            subst hwq
            go_loopw [11, 64] (fun s i wi => ∃ m : Nat, m ≤ n ∧ i = .int .i64 m ∧ s = .int .i64 (sg p k m : Nat) ∧ wq = wi) (fun _ i _ => n - (intOf i).toNat)
            case atStart => exact ⟨0, by omega, rfl, rfl, rfl⟩
            case round =>
              obtain ⟨m, hm, rfl, rfl, rfl⟩ := hrel
              have hsl := HSG.out k m (by omega)
              by_cases hlm : m < n
              · obtain ⟨x, hx⟩ : ∃ x, p[m]? = some x := ⟨_, List.getElem?_eq_getElem (by rw [← HPL.out]; exact hlm)⟩
                obtain ⟨bp, op, hA, hb, hc⟩ := (Sl.same HP.out HS1.out).at1 hx
                have hpv := HPV.out m hlm
                have hx0 := HP0.out x (List.mem_of_getElem? hx)
                have hor := HSO.out k m hlm
                rw [pv_get hx] at hpv hor
                obtain ⟨u, rfl⟩ := Int.eq_ofNat_of_zero_le hx0
                rw [Int.toNat_natCast] at hpv hor
                subst hA
                have hm0 : (0 : Int) ≤ m := by omega
                have hm1 : (m : Int) < n := by omega
                obtain ⟨q, b, c, hd1, hd2, hd3, hd5, hd4, hc16, hb2, hq16, hd6⟩ := step_i (k := k) (m := m) (u := u) (by omega) (by omega) (by omega) hor
                have hu0 : (0 : Int) ≤ u := by omega
                have hmu : min u 64 = u := by omega
                have hmm : min m 64 = m := by omega
                clear hor hx
                go_wp2
                go_roundw
                case rel => exact ⟨m + 1, by omega, by go_num, rfl, trivial⟩
                case measure => simp [intOf]; omega
              · have hmn : m = n := by omega
                subst hmn
                obtain ⟨y, hy⟩ := HDL2.out k hltM
                have hyl := H.out.small.at1 hy
                have hkl : k / 64 < wsa.length := lt_get hy
                have hvb : vb wsa k = y.testBit (k % 64) := by unfold vb; rw [List.getD_eq_getElem?_getD, hy]; rfl
                obtain ⟨ba, offa, hAa, hbla, hca⟩ := WL.at1 (Sl.same H.out.wl HS1.out) hy
                simp only at hAa
                subst hAa
                have hset := HSET.out k hltM
                have hdk := HDL.out (sg p k m) hsl
                have hget : (tab m (renP m p wsa k))[sg p k m / 64]? = some (word m (renP m p wsa k) (sg p k m / 64)) := tab_get (by have := HKN.out k; rw [tab_len] at this; rw [this]; exact hdk)
                have hwl := word_lt m (renP m p wsa k) (sg p k m / 64)
                obtain ⟨sb', hsb', hsl2, hsc⟩ := HOT.out.at1 (c := fun x : Nat => .int .u64 (x : Int)) hget
                injection hsb' with hsb'
                injection hsb' with hsb'
                subst hsb'
                have hst := fun (w' : World) (hs' : Same wq w') => Own.put1 (c := fun x : Nat => .int .u64 (x : Int)) (Own.frm HOT.out hs' (fun _ _ => id)) (i := sg p k m / 64) (by rw [HKN.out]; exact hdk) (word m (renP m p wsa k) (sg p k m / 64) ||| (if vb wsa k then 1 else 0) * 2 ^ (sg p k m % 64))
                rw [hset] at hst
                obtain ⟨hn1, hn2, hr1, hm1, hq2⟩ := dm64 k
                obtain ⟨hn3, hn4, hr2, hm2, hq4⟩ := dm64 (sg p k m)
                have hq1 : ((k / 64 : Nat) : Int) < wsa.length := Int.ofNat_lt.2 hkl
                have hq3 : ((sg p k m / 64 : Nat) : Int) < K := Int.ofNat_lt.2 hdk
                have hcT : _ = some (Value.slice (some ⟨sb, 0, none⟩) K Cq) := HBT.out.cell 1
                have hlT := HBT.out.lt
                have hcX : _ = some (Value.slice (some ⟨ba, offa, none⟩) wsa.length Ca) := HBXa.out.cell 1
                have hlX := HBXa.out.lt
                obtain ⟨z, b, bp, he1, he2, he3, he4, hb1, hz64, hbp64⟩ := step_w (x := word m (renP m p wsa k) (sg p k m / 64)) (y := y) (r1 := k % 64) (r2 := sg p k m % 64) (v := vb wsa k) hwl hyl hr2 hvb
                have hHST := Lib.hid hst
                clear hst hset hget hy hvb
                generalize word m (renP m p wsa k) (sg p k m / 64) ||| (if vb wsa k then 1 else 0) * 2 ^ (sg p k m % 64) = nx at *
                generalize word m (renP m p wsa k) (sg p k m / 64) = x at *
                generalize sg p k m % 64 = r2 at *
                generalize sg p k m / 64 = q2 at *
                generalize sg p k m = sk at *
                generalize k % 64 = r1 at *
                generalize k / 64 = q1 at *
                go_upto_region 23 with fail
                refine wp_quiet_tail 21 (by kernel_rfl) (by kernel_rfl) ?_
                simp only [List.take_succ_cons, List.take_zero, List.drop_succ_cons, List.drop_zero]
                repeat (any_goals (first | go_big_quiet_step (fail) | quiet_step (fail)))
                refine wpQuiet_nil ?_
                rintro wz ⟨q, hq⟩
                have hsz : Same wq wz := by rw [hq]; exact more_same _ q
                have hfz := Own.free (Own.frm HOT.out hsz (fun _ _ => id)) q2
                have hcz := (hsz.cell (p := ⟨sb, q2, none⟩) hsl2 id).trans hsc
                have HSZ := Lib.hid ((HS1.out.trans hsz (fun _ _ h => h)).setNew (g := sb) q2 (.int .u64 (nx : Int)) hsbW)
                have HBXz := Lib.hid ((HBXa.out.frm hsz id).far (p := ⟨sb, q2, none⟩) hneXs (.int .u64 (nx : Int)))
                have HBRz := Lib.hid ((HBR.out.frm hsz id).far (p := ⟨sb, q2, none⟩) hneRs (.int .u64 (nx : Int)))
                have HBTz := Lib.hid ((HBT.out.frm hsz id).far (p := ⟨sb, q2, none⟩) hneTs (.int .u64 (nx : Int)))
                have HOZ := Lib.hid (hHST.out wz hsz)
                have hsbz : sb < wz.heap.size := Nat.lt_of_lt_of_le hsl2 hsz.size
                clear hq hsz hsc hsl2 hcT hlT hcX hlX hca hbla hn1 hn2 hn3 hn4 he1 he2 he3 he4 hm1 hm2
                go_wp2
                go_roundw
                case rel => exact ⟨k + 1, hltM, by go_num, HSZ.out, HBXz.out, HBRz.out, HBTz.out, HOZ.out⟩
                case measure => simp [intOf]; omega
          · obtain rfl : k = M := by omega
            rw [HFULL.out] at HOT
            have cT0 : _ = some (Value.int .i64 n) := HBT.out.cell 0
            have cT1 : _ = some (Value.slice (some ⟨sb, 0, none⟩) K Cq) := HBT.out.cell 1
            have lT := HBT.out.lt
            have cR0 : wr.cell? ⟨R, 0, none⟩ = some (.int .i64 0) := HBR.out.cell 0
            have cR1 : wr.cell? ⟨R, 1, none⟩ = some (.slice none 0 0) := HBR.out.cell 1
            have lR := HBR.out.lt
            have fR0 := HBR.out.free 0
            have fR1 := HBR.out.free 1
            go_wp2
            refine wp_post fun we hwe => ?_
            have hBE : Blk we R 24 #[.int .i64 n, .slice (some ⟨sb, 0, none⟩) K Cq] := by
              rw [hwe]
              have := (HBR.out.set 0 (.int .i64 n)).set 1 (.slice (some ⟨sb, 0, none⟩) K Cq)
              simpa using this
            have hSE : Same w we := by rw [hwe]; exact (HS1.out.setNew 0 _ leR).setNew 1 _ leR
            have hOE : OwnW we (some ⟨sb, 0, none⟩) K Cq (tab n (renF n p wsa)) := by
              rw [hwe]
              exact (Own.far (p := ⟨R, 0, none⟩) HOT.out (fun a ha h => by injection ha with ha; subst ha; exact hneRs h.symm) _).far (p := ⟨R, 1, none⟩) (fun a ha h => by injection ha with ha; subst ha; exact hneRs h.symm) _
            have hr0 : we.cell? ⟨R, 0, none⟩ = some (.int .i64 n) := hBE.cell 0
            have hr1 : we.cell? ⟨R, 1, none⟩ = some (.slice (some ⟨sb, 0, none⟩) K Cq) := hBE.cell 1
            clear hwe hBE
            refine bodyPost_ret (v := .tuple #[.agg #[.int .i64 n, .slice (some ⟨sb, 0, none⟩) K Cq], .int .i64 0]) (by simp [results, Try.results38, go_sem, hr0, hr1]) rfl ?_
            refine ⟨some ⟨sb, 0, none⟩, Cq, by rw [HKL.out]; rfl, ?_, fresh_some hsbW, hSE⟩
            rw [HKL.out]
            exact hOE
end Go.Proofs.Ytlggmoghgoeiiaa

/- Truth tables: renamings there, back, one behind the other: plain. -/
namespace Go.Tk

/-- back, after k variables -/
def bkL (n : Nat) (p : List Int) : Nat → List Int
  | 0 => List.replicate n 0
  | k + 1 => (bkL n p k).set (pv p k) (k : Int)
/-- both, after k variables -/
def boL (n : Nat) (p q : List Int) : Nat → List Int
  | 0 => List.replicate n 0
  | k + 1 => (boL n p q k).set k (q.getD (pv p k) 0)
theorem bkL_len (n : Nat) (p : List Int) : ∀ k, (bkL n p k).length = n
  | 0 => by simp [bkL]
  | k + 1 => by rw [bkL, List.length_set, bkL_len n p k]
theorem boL_len (n : Nat) (p q : List Int) : ∀ k, (boL n p q k).length = n
  | 0 => by simp [boL]
  | k + 1 => by rw [boL, List.length_set, boL_len n p q k]
theorem bkL_get {n : Nat} {p : List Int} (h : PermN n p) : ∀ k, k ≤ n → ∀ v, v < k → (bkL n p k)[pv p v]? = some (v : Int)
  | 0, _, v, hv => by omega
  | k + 1, hk, v, hv => by
    have hl := h.lt (v := v) (by omega)
    rw [bkL, List.getElem?_set, bkL_len]
    by_cases he : pv p k = pv p v
    · obtain rfl := h.inj (by omega) (by omega) he
      rw [if_pos he, if_pos hl]
    · rw [if_neg he]
      exact bkL_get h k (by omega) v (by
        have : v ≠ k := fun hvk => he (by rw [hvk])
        omega)
theorem boL_get {n : Nat} {p q : List Int} : ∀ k, k ≤ n → ∀ v, v < k → (boL n p q k)[v]? = some (q.getD (pv p v) 0)
  | 0, _, v, hv => by omega
  | k + 1, hk, v, hv => by
    rw [boL, List.getElem?_set, boL_len]
    by_cases he : k = v
    · subst he
      rw [if_pos rfl, if_pos (by omega)]
    · rw [if_neg he]
      exact boL_get k (by omega) v (by omega)
theorem permN_of {n : Nat} {l : List Int} (hl : l.length = n) (h : ∀ t, t < n → ∃ u : Nat, u < n ∧ l[t]? = some (u : Int)) (inj : ∀ s t, s < n → t < n → l[s]? = l[t]? → s = t) : PermN n l := by
  refine ⟨hl, fun x hx => ?_, ?_⟩
  · obtain ⟨t, ht⟩ := List.getElem?_of_mem hx
    have htl := lt_get ht
    obtain ⟨u, hu, he⟩ := h t (by omega)
    rw [ht] at he
    injection he with he
    omega
  · rw [List.nodup_iff_pairwise_ne, List.pairwise_iff_getElem]
    intro i j hi hj hij he
    have := inj i j (by omega) (by omega) (by rw [List.getElem?_eq_getElem hi, List.getElem?_eq_getElem hj, he])
    omega
theorem PermN.get {n : Nat} {p : List Int} (h : PermN n p) {v : Nat} (hv : v < n) : p[v]? = some (pv p v : Int) := by
  have hg : p[v]? = some p[v]! := by
    rw [List.getElem?_eq_getElem (by rw [h.len]; exact hv)]
    simp [List.getElem!_eq_getElem?_getD, List.getElem?_eq_getElem (show v < p.length by rw [h.len]; exact hv)]
  rw [hg, pv_get hg]
  have := h.perm.1 _ (List.mem_of_getElem? hg)
  congr 1
  omega
theorem bkL_perm {n : Nat} {p : List Int} (h : PermN n p) : PermN n (bkL n p n) := by
  refine permN_of (bkL_len _ _ _) (fun t ht => ?_) fun s t hs ht he => ?_
  · obtain ⟨v, hv, rfl⟩ := h.onto ht
    exact ⟨v, hv, bkL_get h n (Nat.le_refl _) v hv⟩
  · obtain ⟨u, hu, rfl⟩ := h.onto hs
    obtain ⟨v, hv, rfl⟩ := h.onto ht
    rw [bkL_get h n (Nat.le_refl _) u hu, bkL_get h n (Nat.le_refl _) v hv] at he
    injection he with he
    have : u = v := by omega
    rw [this]
theorem boL_perm {n : Nat} {p q : List Int} (h : PermN n p) (hq : PermN n q) : PermN n (boL n p q n) := by
  have hg : ∀ v, v < n → (boL n p q n)[v]? = some (pv q (pv p v) : Int) := fun v hv => by
    rw [boL_get n (Nat.le_refl _) v hv, List.getD_eq_getElem?_getD, hq.get (h.lt hv)]
    rfl
  refine permN_of (boL_len _ _ _ _) (fun t ht => ⟨_, hq.lt (h.lt ht), hg t ht⟩) fun s t hs ht he => ?_
  rw [hg s hs, hg t ht] at he
  injection he with he
  exact h.inj hs ht (hq.inj (h.lt hs) (h.lt ht) (by omega))
theorem tau_bit {n : Nat} {p : List Int} (i v : Nat) : (tau n p i).testBit v = (decide (v < n) && i.testBit (pv p v)) := bsum_bit _ _ _
theorem tau_lt {n : Nat} {p : List Int} (i : Nat) : tau n p i < 2 ^ n := bsum_lt _ _
theorem pv_bk {n : Nat} {p : List Int} (h : PermN n p) {v : Nat} (hv : v < n) : pv (bkL n p n) (pv p v) = v := by
  rw [pv_get (bkL_get h n (Nat.le_refl _) v hv)]
  simp
theorem pv_bo {n : Nat} {p q : List Int} (h : PermN n p) (hq : PermN n q) {v : Nat} (hv : v < n) : pv (boL n p q n) v = pv q (pv p v) := by
  rw [pv_get (boL_get n (Nat.le_refl _) v hv), List.getD_eq_getElem?_getD, hq.get (h.lt hv)]
  simp
theorem high_bit {n i t : Nat} (hi : i < 2 ^ n) (ht : ¬ t < n) : i.testBit t = false := Nat.testBit_lt_two_pow (Nat.lt_of_lt_of_le hi (Nat.pow_le_pow_right (by omega) (by omega)))
theorem ren_back {n : Nat} {p : List Int} {ws : List Nat} (hf : FormN n ws) (hb : ∀ x ∈ ws, x < 18446744073709551616) (h : PermN n p) : tab n (renF n (bkL n p n) (tab n (renF n p ws))) = ws := by
  refine Eq.trans (tab_congr fun i hi => ?_) (tab_vb hf hb)
  unfold renF
  rw [vb_tab (tau_lt i)]
  congr 1
  apply Nat.eq_of_testBit_eq
  intro v
  rw [tau_bit]
  by_cases hv : v < n
  · rw [tau_bit, pv_bk h hv]
    simp [hv, h.lt hv]
  · rw [high_bit hi hv]
    simp [hv]
theorem ren_both {n : Nat} {p q : List Int} {ws : List Nat} (h : PermN n p) (hq : PermN n q) : tab n (renF n q (tab n (renF n p ws))) = tab n (renF n (boL n p q n) ws) := by
  refine tab_congr fun i hi => ?_
  unfold renF
  rw [vb_tab (tau_lt i)]
  congr 1
  apply Nat.eq_of_testBit_eq
  intro v
  rw [tau_bit, tau_bit]
  by_cases hv : v < n
  · rw [tau_bit, pv_bo h hq hv]
    simp [h.lt hv, hv]
  · simp [hv, tau_bit]
theorem tau_inj {n : Nat} {p : List Int} (h : PermN n p) {i j : Nat} (hi : i < 2 ^ n) (hj : j < 2 ^ n) (he : tau n p i = tau n p j) : i = j := by rw [← sg_tau h hi, he, sg_tau h hj]
theorem ren_cnt {n : Nat} {p : List Int} {ws : List Nat} (h : PermN n p) : cntB (vb (tab n (renF n p ws))) (2 ^ n) = cntB (vb ws) (2 ^ n) := by
  rw [cntB_congr (G := fun i => vb ws (tau n p i)) fun j hj => by rw [vb_tab hj]; rfl]
  exact cntB_perm (fun i _ => tau_lt i) fun i j hi hj he => tau_inj h hi hj he
theorem tau_wth {n : Nat} {p : List Int} (h : PermN n p) {v : Nat} (hv : v < n) (i : Nat) (b : Bool) : tau n p (wth i (pv p v) b) = wth (tau n p i) v b := by
  refine wth_of fun j => ?_
  rw [tau_bit, tau_bit, wth_bit]
  by_cases hj : j = v
  · subst hj; simp [hv]
  · rw [if_neg hj]
    by_cases hjn : j < n
    · rw [if_neg (fun he => hj (h.inj hjn hv he))]
    · simp [hjn]
end Go.Tk
namespace Go.Proofs.Ytlggmoghgoeiiaa
open Go.RowKit Go.Tk

theorem ren_dep {n : Nat} {p : List Int} {ws : List Nat} (h : PermN n p) {v : Nat} (hv : v < n) : depB n (tab n (renF n p ws)) (pv p v) = depB n ws v := by
  have key : ∀ i, i < 2 ^ n → ∀ b, hfF (pv p v) b (tab n (renF n p ws)) i = hfF v b ws (tau n p i) := fun i hi b => by
    unfold hfF
    rw [vb_tab (wth_lt hi (h.lt hv))]
    unfold renF
    rw [tau_wth h hv]
  cases hd : depB n ws v with
  | false =>
    refine depB_false fun i hi => ?_
    rw [key i hi, key i hi]
    exact depB_eq hd (tau_lt i)
  | true =>
    by_cases hall : ∀ i, i < 2 ^ n → hfF v false ws i = hfF v true ws i
    · rw [depB_false hall] at hd; cases hd
    · obtain ⟨i, hi⟩ := Classical.not_forall.1 hall
      obtain ⟨hin, hne⟩ := Classical.not_imp.1 hi
      have hsl := sg_lt h i n (Nat.le_refl _)
      refine depB_true hsl ?_
      rw [key _ hsl, key _ hsl, tau_sg h hin]
      exact hne
theorem ren_sup {n : Nat} {p : List Int} {ws : List Nat} (h : PermN n p) : bsum (depB n (tab n (renF n p ws))) n = sg p (bsum (depB n ws) n) n := by
  obtain ⟨h1, h2⟩ := sg_bits h (bsum (depB n ws) n) n (Nat.le_refl _)
  apply Nat.eq_of_testBit_eq
  intro t
  rw [bsum_bit]
  by_cases ht : t < n
  · obtain ⟨v, hv, rfl⟩ := h.onto ht
    rw [h1 v hv, bsum_bit, ren_dep h hv]
    simp [hv, ht]
  · rw [h2 t fun v hv he => ht (by rw [← he]; exact h.lt hv)]
    simp [ht]
theorem step_u {k u s m t : Nat} (hs : s < 18446744073709551616) (hu : u < 16) (hm : m < 65536) (ht : m ||| (s / 2 ^ k % 2) * 2 ^ u = t) :
    ∃ q b c : Nat, (s : Int) / 2 ^ k = (q : Int) ∧ bits .and .u64 (q : Int) 1 = (b : Int) ∧ IntKind.u64.wrap ((b : Int) * 2 ^ u) = (c : Int) ∧ bits .or .u64 (m : Int) (c : Int) = (t : Int) ∧ b < 2 ∧ q < 18446744073709551616 ∧ c < 18446744073709551616 := by
  have hqk : s / 2 ^ k ≤ s := Nat.div_le_self _ _
  have hd2 := u64_and_nat (s / 2 ^ k) 1 (by omega) (by omega)
  rw [nat_mask1] at hd2
  have hb2 : s / 2 ^ k % 2 < 2 := Nat.mod_lt _ (by omega)
  have hc := mul_le16 hb2 hu
  refine ⟨s / 2 ^ k, s / 2 ^ k % 2, (s / 2 ^ k % 2) * 2 ^ u, by rw [pow_int]; exact (Int.natCast_ediv _ _).symm, hd2, ?_, ?_, hb2, by omega, by omega⟩
  · rw [pow_int, ← Int.natCast_mul]
    generalize (s / 2 ^ k % 2) * 2 ^ u = c at hc
    exact IntWalk.u64_in _ (by omega)
  · rw [← ht]
    generalize (s / 2 ^ k % 2) * 2 ^ u = c at hc
    exact u64_or_nat m c (by omega) (by omega)
end Go.Proofs.Ytlggmoghgoeiiaa

/- Truth tables: the law's mapped. -/
namespace Go.Proofs.Ytlggmoghgoeiiaa
open Go.RowKit Go.Tk

set_option maxHeartbeats 4000000 in
theorem mapped_any (Ap : Option Addr) (Lp Cp : Nat) (p : List Int) (n : Nat) (w : World) (hp : IL w Ap Lp p) (hn : n ≤ 16) (hLp : Lp ≤ 1000000000000000000) :
    Calls Try.prog 44 #[.slice Ap Lp Cp, .int .i64 n] w fun e w' => e = .returned (.bool (prmB n p)) ∧ Same w w' := by
  have HP := Lib.hid hp
  have hpl := hp.len
  have hmk := fun w => run_make_n (P := Try.prog) Try.underlying26 info_bool .i64 .i64 n (show 1 * n ≤ 281474976710656 by omega) (show n ≤ 9223372036854775807 by omega) w
  obtain ⟨res, hres⟩ : ∃ r : Bool, prmB n p = r := ⟨_, rfl⟩
  rw [hres]
  have HERR := Lib.hid hres
  have HPL := Lib.hid hpl
  clear hp hpl hres
  have hn0 : (0 : Int) ≤ n := by omega
  have hmx : max (n : Int) 0 = n := by omega
  go_enter Try.func44, Try.ntmps44
  go_upto_region 2 with fail
  refine wp_world fun w1 hw1 => ?_
  have hs1 : Same w w1 := by rw [hw1]; exact (Frm.refl _ _).alloc _
  have hOD : OwnB w1 (some ⟨w.heap.size, 0, none⟩) n n (seenL p 0 n) := by
    rw [seenL_zero, hw1]
    have := Own.ofMade (m := 1) w 4 (fun b : Bool => [.bool b]) (fun _ => rfl) (by decide) false n (show n ≤ 9223372036854775807 by omega) rfl
    simpa using this
  clear hw1 hmk hmx
  have HOD := Lib.hid hOD
  have HS := Lib.hid hs1
  clear hOD hs1
  go_wp2
  go_loopw [13] (fun i wr => ∃ k : Nat, k ≤ Lp ∧ i = .int .i64 k ∧ GoodN n p k ∧ Same w wr ∧ OwnB wr (some ⟨w.heap.size, 0, none⟩) n n (seenL p k n)) (fun i _ => Lp - (intOf i).toNat)
  case atStart => exact ⟨0, by omega, rfl, ⟨by simp, by simp⟩, HS.out, HOD.out⟩
  case round =>
    obtain ⟨k, hk, rfl, hg, hs, hOD⟩ := hrel
    replace HS := Lib.hid hs
    replace HOD := Lib.hid hOD
    have HG := Lib.hid hg
    clear hs hOD hg
    by_cases hlt : k < Lp
    · obtain ⟨x, hx⟩ : ∃ x, p[k]? = some x := ⟨_, List.getElem?_eq_getElem (by rw [← HPL.out]; exact hlt)⟩
      obtain ⟨bp, op, hA, hb, hc⟩ := (Sl.same HP.out HS.out).at1 hx
      subst hA
      have hk0 : (0 : Int) ≤ k := by omega
      have hk1 : (k : Int) < Lp := by omega
      have HX := Lib.hid hx
      clear hx
      by_cases h0 : x < 0
      · have he : res = false := by rw [← HERR.out, prmB_range HX.out (.inl h0)]
        subst he
        go_wp2
        go_ret
        exact ⟨rfl, HS.out⟩
      by_cases h1 : x ≥ n
      · have he : res = false := by rw [← HERR.out, prmB_range HX.out (.inr h1)]
        subst he
        go_wp2
        go_ret
        exact ⟨rfl, HS.out⟩
      obtain ⟨y, rfl⟩ := Int.eq_ofNat_of_zero_le (show 0 ≤ x by omega)
      have hyl : y < n := by omega
      have hyl2 : (y : Int) < n := by omega
      have hy3 : ¬ n ≤ y := by omega
      have hgt := seenL_get p k hyl
      obtain ⟨sb, hsb, hsl, hsc⟩ := Own.at1 (c := fun b : Bool => .bool b) HOD.out hgt
      injection hsb with hsb
      injection hsb with hsb
      subst hsb
      have hfr := Own.free HOD.out y
      clear hgt
      by_cases hd : (y : Int) ∈ p.take k
      · have hd' : decide ((y : Int) ∈ p.take k) = true := by simpa using hd
        rw [hd'] at hsc
        have he : res = false := by rw [← HERR.out, prmB_dup HX.out hd]
        subst he
        clear hd hd'
        go_wp2
        go_ret
        exact ⟨rfl, HS.out⟩
      · have hd' : decide ((y : Int) ∈ p.take k) = false := by simpa using hd
        rw [hd'] at hsc
        have HD := Lib.hid hd
        clear hd hd'
        have hst := Own.put1 (c := fun b : Bool => .bool b) HOD.out (i := y) (by rw [seenL_len]; exact hyl) true
        rw [seenL_set HX.out hyl] at hst
        have HST := Lib.hid hst
        clear hst
        go_wp2
        go_roundw
        case rel => exact ⟨k + 1, by omega, by go_num, HG.out.next HX.out (by omega) (by omega) HD.out, HS.out.setNew y _ (Nat.le_refl _), HST.out⟩
        case measure => simp [intOf]; omega
    · obtain rfl : k = Lp := by omega
      by_cases hln : k ≠ n
      · have he : res = false := by rw [← HERR.out, prmB_len (by rw [← HPL.out]; exact hln)]
        subst he
        have hln2 : ((k : Int) == n) = false := by rw [beq_eq_false_iff_ne]; omega
        go_wp2
        go_ret
        exact ⟨rfl, HS.out⟩
      obtain rfl : n = k := by omega
      have hPN : PermN n p := prmB_good (by rw [← HPL.out]; exact HG.out) HPL.out.symm
      have he : res = true := by rw [← HERR.out, prmB_true.2 hPN]
      subst he
      go_wp2
      go_ret
      exact ⟨by simp, HS.out⟩
end Go.Proofs.Ytlggmoghgoeiiaa

/- Truth tables: TruthShannon: the walk. -/
namespace Go.Proofs.Ytlggmoghgoeiiaa
open Go.RowKit Go.Tk

/-- a table that lies in a block -/
structure Tv (w : World) (T : Nat) (n : Int) (A : Option Addr) (C : Nat) (ws : List Nat) : Prop where
  blk : Blk w T 24 #[.int .i64 n, .slice A ws.length C]
  wl : WL w A ws.length ws
theorem Tv.same {w w' : World} {T : Nat} {n : Int} {A : Option Addr} {C : Nat} {ws : List Nat} (h : Tv w T n A C ws) (hs : Same w w') : Tv w' T n A C ws := ⟨h.blk.frm hs id, Sl.same h.wl hs⟩
theorem Tv.make {w w' : World} {n : Int} {A : Option Addr} {C : Nat} {ws : List Nat} (h : WL w A ws.length ws) (hw : w' = w.alloc (.cells #[.int .i64 n, .slice A ws.length C] 24)) : Tv w' w.heap.size n A C ws ∧ Same w w' := by
  subst hw
  have hs : Same w (w.alloc (.cells #[.int .i64 n, .slice A ws.length C] 24)) := (Frm.refl _ _).alloc _
  exact ⟨⟨Blk.new w _ _, Sl.same h hs⟩, hs⟩
theorem sup_bit {n V : Nat} {ws : List Nat} (hV : V < n) : (bsum (depB n ws) n).testBit V = !sm n n (tab n (hfF V true ws)) (tab n (hfF V false ws)) := by
  rw [bsum_bit, decide_eq_true hV, Bool.true_and]
  unfold depB sm
  generalize tab n (hfF V true ws) = a
  generalize tab n (hfF V false ws) = b
  by_cases he : a = b
  · subst he; simp
  · have he2 : ¬ b = a := fun h => he h.symm
    simp [he, he2]
theorem tab_small (n : Nat) (F : Nat → Bool) : Small (tab n F) := fun x hx => tab_lt x hx
set_option maxRecDepth 100000 in
set_option maxHeartbeats 16000000 in
theorem shannon_walk (Na : Int) (Aa : Option Addr) (Ca : Nat) (wsa : List Nat) (v : Int) (w : World) (h : TbIn w ⟨Na, Aa, Ca, wsa⟩) : Calls Try.prog 10 #[.agg #[.int .i64 Na, .slice Aa wsa.length Ca], .int .i64 v] w fun e w' => e = .returned (.bool true) ∧ Below w.heap.size w w' := by
  have H := Lib.hid h
  clear h
  cases hfr : frm Na wsa with
  | false =>
    have HFM := Lib.hid ((frm_one Na Aa Ca wsa).trans hfr)
    clear hfr
    go_enter Try.func10, Try.ntmps10
    go_upto_region 1 with fail
    refine wp_world fun w1 hw1 => ?_
    have hs1 : Same w w1 := by rw [hw1]; exact (Frm.refl _ _).alloc _
    have hBXa : Blk w1 (w.heap.size) 24 #[.int .i64 Na, .slice Aa wsa.length Ca] := by
      rw [hw1]
      have := (Blk.new w 24 #[.int .i64 Na, .slice Aa wsa.length Ca])
      simpa using this
    clear hw1
    have cXa0 : w1.cell? ⟨w.heap.size, 0, none⟩ = some (.int .i64 Na) := hBXa.cell 0
    have cXa1 : w1.cell? ⟨w.heap.size, 1, none⟩ = some (.slice Aa wsa.length Ca) := hBXa.cell 1
    have lXa := hBXa.lt
    have fXa0 := hBXa.free 0
    have fXa1 := hBXa.free 1
    have HBXa := Lib.hid hBXa
    have HS1 := Lib.hid hs1
    clear hs1 hBXa
    go_wp2_with (fail)
    refine (awake_any w1).mono ?_
    rintro e w2a ⟨rfl, hs13⟩
    replace HBXa := Lib.hid (HBXa.out.frm hs13 id)
    replace cXa0 : w2a.cell? ⟨w.heap.size, 0, none⟩ = some (.int .i64 Na) := HBXa.out.cell 0
    replace cXa1 : w2a.cell? ⟨w.heap.size, 1, none⟩ = some (.slice Aa wsa.length Ca) := HBXa.out.cell 1
    replace lXa := HBXa.out.lt
    replace fXa0 := HBXa.out.free 0
    replace fXa1 := HBXa.out.free 1
    replace HS1 := Lib.hid (HS1.out.trans hs13 (fun _ _ h => h))
    clear hs13
    have HOKa := Lib.hid (H.out.ok.same HS1.out)
    go_wp2_with (fail)
    refine call_world fun w2 hw2 => ?_
    have hs2 : Same w2a w2 := by rw [hw2]; exact (Frm.refl _ _).alloc _
    have hBL : Blk w2 w2a.heap.size 24 #[.int .i64 Na, .slice Aa wsa.length Ca] := by rw [hw2]; exact Blk.new _ _ _
    have htbs : Tbs w2 w2a.heap.size [⟨Na, Aa, Ca, wsa⟩] := by
      intro i t hi
      match i, hi with
      | 0, hi =>
        simp only [List.getElem?_cons_zero, Option.some.injEq] at hi
        subst hi
        exact ⟨hBL.lt, hBL.cell 0, hBL.cell 1⟩
      | i + 1, hi => simp at hi
    have hfc := good_any w2a.heap.size 1 1 [⟨Na, Aa, Ca, wsa⟩] w2 rfl (by decide) htbs (fun t ht => by
      simp only [List.mem_cons, List.not_mem_nil, or_false] at ht
      rcases ht with rfl
      · exact (HOKa.out).same hs2)
    rw [HFM.out] at hfc
    refine hfc.mono ?_
    clear hfc htbs hBL hw2
    rintro e w3 ⟨rfl, hs3⟩
    have hs23 : Same w2a w3 := hs2.trans hs3 (fun _ _ h => h)
    clear hs2 hs3
    replace HBXa := Lib.hid (HBXa.out.frm hs23 id)
    replace cXa0 : w3.cell? ⟨w.heap.size, 0, none⟩ = some (.int .i64 Na) := HBXa.out.cell 0
    replace cXa1 : w3.cell? ⟨w.heap.size, 1, none⟩ = some (.slice Aa wsa.length Ca) := HBXa.out.cell 1
    replace lXa := HBXa.out.lt
    replace fXa0 := HBXa.out.free 0
    replace fXa1 := HBXa.out.free 1
    replace HS1 := Lib.hid (HS1.out.trans hs23 (fun _ _ h => h))
    clear hs23
    go_wp2
    go_ret
    exact ⟨rfl, HS1.out.to_below (Nat.le_refl _) (fun _ _ => id)⟩
  | true =>
    obtain ⟨n, rfl, hform⟩ := frm_true hfr
    have HFM := Lib.hid ((frm_one n Aa Ca wsa).trans hfr)
    by_cases h0 : v < 0
    · clear hfr hform
      go_enter Try.func10, Try.ntmps10
      go_upto_region 1 with fail
      refine wp_world fun w1 hw1 => ?_
      have hs1 : Same w w1 := by rw [hw1]; exact (Frm.refl _ _).alloc _
      have hBXa : Blk w1 (w.heap.size) 24 #[.int .i64 n, .slice Aa wsa.length Ca] := by
        rw [hw1]
        have := (Blk.new w 24 #[.int .i64 n, .slice Aa wsa.length Ca])
        simpa using this
      clear hw1
      have cXa0 : w1.cell? ⟨w.heap.size, 0, none⟩ = some (.int .i64 n) := hBXa.cell 0
      have cXa1 : w1.cell? ⟨w.heap.size, 1, none⟩ = some (.slice Aa wsa.length Ca) := hBXa.cell 1
      have lXa := hBXa.lt
      have fXa0 := hBXa.free 0
      have fXa1 := hBXa.free 1
      have HBXa := Lib.hid hBXa
      have HS1 := Lib.hid hs1
      clear hs1 hBXa
      go_wp2_with (fail)
      refine (awake_any w1).mono ?_
      rintro e w2a ⟨rfl, hs13⟩
      replace HBXa := Lib.hid (HBXa.out.frm hs13 id)
      replace cXa0 : w2a.cell? ⟨w.heap.size, 0, none⟩ = some (.int .i64 n) := HBXa.out.cell 0
      replace cXa1 : w2a.cell? ⟨w.heap.size, 1, none⟩ = some (.slice Aa wsa.length Ca) := HBXa.out.cell 1
      replace lXa := HBXa.out.lt
      replace fXa0 := HBXa.out.free 0
      replace fXa1 := HBXa.out.free 1
      replace HS1 := Lib.hid (HS1.out.trans hs13 (fun _ _ h => h))
      clear hs13
      have HOKa := Lib.hid (H.out.ok.same HS1.out)
      go_wp2_with (fail)
      refine call_world fun w2 hw2 => ?_
      have hs2 : Same w2a w2 := by rw [hw2]; exact (Frm.refl _ _).alloc _
      have hBL : Blk w2 w2a.heap.size 24 #[.int .i64 n, .slice Aa wsa.length Ca] := by rw [hw2]; exact Blk.new _ _ _
      have htbs : Tbs w2 w2a.heap.size [⟨n, Aa, Ca, wsa⟩] := by
        intro i t hi
        match i, hi with
        | 0, hi =>
          simp only [List.getElem?_cons_zero, Option.some.injEq] at hi
          subst hi
          exact ⟨hBL.lt, hBL.cell 0, hBL.cell 1⟩
        | i + 1, hi => simp at hi
      have hfc := good_any w2a.heap.size 1 1 [⟨n, Aa, Ca, wsa⟩] w2 rfl (by decide) htbs (fun t ht => by
        simp only [List.mem_cons, List.not_mem_nil, or_false] at ht
        rcases ht with rfl
        · exact (HOKa.out).same hs2)
      rw [HFM.out] at hfc
      refine hfc.mono ?_
      clear hfc htbs hBL hw2
      rintro e w3 ⟨rfl, hs3⟩
      have hs23 : Same w2a w3 := hs2.trans hs3 (fun _ _ h => h)
      clear hs2 hs3
      replace HBXa := Lib.hid (HBXa.out.frm hs23 id)
      replace cXa0 : w3.cell? ⟨w.heap.size, 0, none⟩ = some (.int .i64 n) := HBXa.out.cell 0
      replace cXa1 : w3.cell? ⟨w.heap.size, 1, none⟩ = some (.slice Aa wsa.length Ca) := HBXa.out.cell 1
      replace lXa := HBXa.out.lt
      replace fXa0 := HBXa.out.free 0
      replace fXa1 := HBXa.out.free 1
      replace HS1 := Lib.hid (HS1.out.trans hs23 (fun _ _ h => h))
      clear hs23
      go_wp2
      go_ret
      exact ⟨rfl, HS1.out.to_below (Nat.le_refl _) (fun _ _ => id)⟩
    by_cases h1 : v ≥ (n : Int)
    · clear hfr hform
      go_enter Try.func10, Try.ntmps10
      go_upto_region 1 with fail
      refine wp_world fun w1 hw1 => ?_
      have hs1 : Same w w1 := by rw [hw1]; exact (Frm.refl _ _).alloc _
      have hBXa : Blk w1 (w.heap.size) 24 #[.int .i64 n, .slice Aa wsa.length Ca] := by
        rw [hw1]
        have := (Blk.new w 24 #[.int .i64 n, .slice Aa wsa.length Ca])
        simpa using this
      clear hw1
      have cXa0 : w1.cell? ⟨w.heap.size, 0, none⟩ = some (.int .i64 n) := hBXa.cell 0
      have cXa1 : w1.cell? ⟨w.heap.size, 1, none⟩ = some (.slice Aa wsa.length Ca) := hBXa.cell 1
      have lXa := hBXa.lt
      have fXa0 := hBXa.free 0
      have fXa1 := hBXa.free 1
      have HBXa := Lib.hid hBXa
      have HS1 := Lib.hid hs1
      clear hs1 hBXa
      go_wp2_with (fail)
      refine (awake_any w1).mono ?_
      rintro e w2a ⟨rfl, hs13⟩
      replace HBXa := Lib.hid (HBXa.out.frm hs13 id)
      replace cXa0 : w2a.cell? ⟨w.heap.size, 0, none⟩ = some (.int .i64 n) := HBXa.out.cell 0
      replace cXa1 : w2a.cell? ⟨w.heap.size, 1, none⟩ = some (.slice Aa wsa.length Ca) := HBXa.out.cell 1
      replace lXa := HBXa.out.lt
      replace fXa0 := HBXa.out.free 0
      replace fXa1 := HBXa.out.free 1
      replace HS1 := Lib.hid (HS1.out.trans hs13 (fun _ _ h => h))
      clear hs13
      have HOKa := Lib.hid (H.out.ok.same HS1.out)
      go_wp2_with (fail)
      refine call_world fun w2 hw2 => ?_
      have hs2 : Same w2a w2 := by rw [hw2]; exact (Frm.refl _ _).alloc _
      have hBL : Blk w2 w2a.heap.size 24 #[.int .i64 n, .slice Aa wsa.length Ca] := by rw [hw2]; exact Blk.new _ _ _
      have htbs : Tbs w2 w2a.heap.size [⟨n, Aa, Ca, wsa⟩] := by
        intro i t hi
        match i, hi with
        | 0, hi =>
          simp only [List.getElem?_cons_zero, Option.some.injEq] at hi
          subst hi
          exact ⟨hBL.lt, hBL.cell 0, hBL.cell 1⟩
        | i + 1, hi => simp at hi
      have hfc := good_any w2a.heap.size 1 1 [⟨n, Aa, Ca, wsa⟩] w2 rfl (by decide) htbs (fun t ht => by
        simp only [List.mem_cons, List.not_mem_nil, or_false] at ht
        rcases ht with rfl
        · exact (HOKa.out).same hs2)
      rw [HFM.out] at hfc
      refine hfc.mono ?_
      clear hfc htbs hBL hw2
      rintro e w3 ⟨rfl, hs3⟩
      have hs23 : Same w2a w3 := hs2.trans hs3 (fun _ _ h => h)
      clear hs2 hs3
      replace HBXa := Lib.hid (HBXa.out.frm hs23 id)
      replace cXa0 : w3.cell? ⟨w.heap.size, 0, none⟩ = some (.int .i64 n) := HBXa.out.cell 0
      replace cXa1 : w3.cell? ⟨w.heap.size, 1, none⟩ = some (.slice Aa wsa.length Ca) := HBXa.out.cell 1
      replace lXa := HBXa.out.lt
      replace fXa0 := HBXa.out.free 0
      replace fXa1 := HBXa.out.free 1
      replace HS1 := Lib.hid (HS1.out.trans hs23 (fun _ _ h => h))
      clear hs23
      go_wp2
      go_ret
      exact ⟨rfl, HS1.out.to_below (Nat.le_refl _) (fun _ _ => id)⟩
    obtain ⟨V, rfl⟩ : ∃ V : Nat, v = V := ⟨v.toNat, by omega⟩
    have hV : V < n := by omega
    have hn := hform.n16
    have hsm := H.out.ok.small
    simp only at hsm
    have hoe : ofE n V wsa = 0 := by unfold ofE; rw [hfr, if_pos rfl, if_neg (by omega)]
    have hve : varE n V = 0 := by unfold varE; rw [show cntE n = 0 by unfold cntE; rw [if_neg (by omega), if_neg (by omega)], if_neg (by simp), if_neg (by omega)]
    have hC := fun b w h => Cofactor_any n Aa Ca wsa V b w h
    have hE := fun w h => Exists_any n Aa Ca wsa V w h
    have hX := fun w => Var_any n V w
    have hI := fun A1 C1 A2 C2 A3 C3 w h1 h2 h3 => Ite_any n A1 C1 (tab n (varF V)) n A2 C2 (tab n (hfF V true wsa)) n A3 C3 (tab n (hfF V false wsa)) w h1 h2 h3
    have hft : ∀ (F : Nat → Bool), frm n (tab n F) = true := fun F => frm_nat.2 (tab_form hn)
    simp only [hoe] at hC
    rw [hoe] at hE
    rw [hve] at hX
    have hfm : ∀ (A1 A2 A3 : Option Addr) (C1 C2 C3 : Nat), fm [⟨n, A1, C1, tab n (varF V)⟩, ⟨n, A2, C2, tab n (hfF V true wsa)⟩, ⟨n, A3, C3, tab n (hfF V false wsa)⟩] = true := fun _ _ _ _ _ _ => by simp [fm, Tb.frm, hft]
    simp only [hfm, show fmE true = 0 from rfl] at hI
    unfold RetA at hC hE hX hI
    have hCt := hC true
    have hCf := hC false
    rw [show ansN n 0 = n from rfl] at hE hX
    simp only [show ansN n 0 = n from rfl] at hCt hCf hI
    rw [show ansL (tab (n : Int).toNat (exF (V : Int).toNat wsa)) 0 = tab n (exF V wsa) from rfl] at hE
    rw [show ansL (tab (n : Int).toNat (varF (V : Int).toNat)) 0 = tab n (varF V) from rfl] at hX
    simp only [show ansL (tab (n : Int).toNat (hfF (V : Int).toNat true wsa)) 0 = tab n (hfF V true wsa) from rfl] at hCt
    simp only [show ansL (tab (n : Int).toNat (hfF (V : Int).toNat false wsa)) 0 = tab n (hfF V false wsa) from rfl] at hCf
    simp only [show ansL (tab (n : Int).toNat (iteF (tab n (varF V)) (tab n (hfF V true wsa)) (tab n (hfF V false wsa)))) 0 = tab n (iteF (tab n (varF V)) (tab n (hfF V true wsa)) (tab n (hfF V false wsa))) from rfl, shan_ite hform hsm] at hI
    have hT2 := fun A1 C1 A2 C2 w h1 h2 => twoT_any n 14 A1 C1 (tab n (hfF V true wsa)) A2 C2 (tab n (hfF V false wsa)) w (by omega) h1 (tab_form hn) h2 (tab_form hn)
    simp only [shan_or] at hT2
    have hSa := fun A C w h => Support_any n A C wsa w h
    have hSo := fun A C w h => Support_any n A C (tab n (hfF V true wsa)) w h
    have hSe := fun A C w h => Support_any n A C (tab n (exF V wsa)) w h
    have hNa := fun A C w h => Count_any n A C wsa w h
    have hNo := fun A C w h => Count_any n A C (tab n (hfF V true wsa)) w h
    have hNz := fun A C w h => Count_any n A C (tab n (hfF V false wsa)) w h
    rw [hfr] at hSa hNa
    rw [hft] at hSo hSe hNo hNz
    rw [if_pos rfl] at hNa hNo hNz
    rw [show fmE true = 0 from rfl] at hSa hSo hSe hNa hNo hNz
    have es : supN n wsa = bsum (depB n wsa) n := by unfold supN; rw [hfr, if_pos rfl]; rfl
    have eo : supN n (tab n (hfF V true wsa)) = bsum (depB n (tab n (hfF V true wsa))) n := by unfold supN; rw [hft, if_pos rfl]; rfl
    have ee : supN n (tab n (exF V wsa)) = bsum (depB n (tab n (exF V wsa))) n := by unfold supN; rw [hft, if_pos rfl]; rfl
    have hcnt := shan_cnt (ws := wsa) hV
    rw [← popS_form (tab_form (F := hfF V true wsa) hn), ← popS_form (tab_form (F := hfF V false wsa) hn), ← popS_form hform] at hcnt
    have hm1 := mask_sub (F := depB n (tab n (hfF V true wsa))) (G := depB n wsa) (n := n) (V := V) (by omega) (fun u hu h => dep_cof hV hu h)
    have hm2 := mask_sub (F := depB n (tab n (exF V wsa))) (G := depB n wsa) (n := n) (V := V) (by omega) (fun u hu h => dep_ex hV hu h)
    rw [← es, ← eo] at hm1
    rw [← es, ← ee] at hm2
    have hsb : (supN n wsa).testBit V = !sm n n (tab n (hfF V true wsa)) (tab n (hfF V false wsa)) := by rw [es]; exact sup_bit hV
    have ls : supN n wsa < 18446744073709551616 := by rw [es]; exact Nat.lt_of_lt_of_le (bsum_lt _ n) (show 2 ^ n ≤ 2 ^ 64 from Nat.pow_le_pow_right (by omega) (by omega))
    have lo : supN n (tab n (hfF V true wsa)) < 18446744073709551616 := by rw [eo]; exact Nat.lt_of_lt_of_le (bsum_lt _ n) (show 2 ^ n ≤ 2 ^ 64 from Nat.pow_le_pow_right (by omega) (by omega))
    have le : supN n (tab n (exF V wsa)) < 18446744073709551616 := by rw [ee]; exact Nat.lt_of_lt_of_le (bsum_lt _ n) (show 2 ^ n ≤ 2 ^ 64 from Nat.pow_le_pow_right (by omega) (by omega))
    have lc : popS wsa wsa.length ≤ 65536 := by rw [popS_form hform]; exact Nat.le_trans (cntB_le _ _) (pow_le16 hn)
    have hwx := tab_small n (varF V)
    have hwo := tab_small n (hfF V true wsa)
    have hwz := tab_small n (hfF V false wsa)
    have hwe := tab_small n (exF V wsa)
    have llx := tab_len_le (F := varF V) hn
    have llo := tab_len_le (F := hfF V true wsa) hn
    have lle := tab_len_le (F := exF V wsa) hn
    have lla : wsa.length ≤ 1000000000000000000 := by rw [hform.len]; have := nw_le hn; omega
    have hSM := fun A1 C1 A2 C2 w h1 h2 => same_any n A1 wsa.length C1 wsa n A2 wsa.length C2 wsa w h1 h2 lla
    have hSN := fun A1 C1 A2 C2 w h1 h2 => same_any n A1 (tab n (exF V wsa)).length C1 (tab n (exF V wsa)) n A2 (tab n (exF V wsa)).length C2 (tab n (exF V wsa)) w h1 h2 lle
    have hSO := fun A1 C1 A2 C2 w h1 h2 => same_any n A1 (tab n (hfF V true wsa)).length C1 (tab n (hfF V true wsa)) n A2 (tab n (hfF V false wsa)).length C2 (tab n (hfF V false wsa)) w h1 h2 llo
    simp only [sm_self] at hSM hSN
    have hp15 : 2 ^ V ≤ 2 ^ 15 := Nat.pow_le_pow_right (by omega) (by omega)
    rw [Nat.mod_eq_of_lt (show 2 ^ V < 18446744073709551616 by omega)] at hm1 hm2
    have hdv : ((supN n wsa : Nat) : Int) / 2 ^ V = ((supN n wsa / 2 ^ V : Nat) : Int) := by rw [pow_int]; exact (Int.natCast_ediv _ _).symm
    have hbit := and1_bit (supN n wsa) V ls
    rw [hsb] at hbit
    have hdl : supN n wsa / 2 ^ V ≤ supN n wsa := Nat.div_le_self _ _
    have hxr := xor_not (x := 2 ^ V) (by omega)
    unfold notN at hxr
    have hsw : IntKind.u64.wrap ((2 : Int) ^ V) = ((2 ^ V : Nat) : Int) := by
      rw [pow_int]
      generalize 2 ^ V = p at hp15
      exact IntWalk.u64_in _ (by omega)
    rw [← pow_int] at hxr
    obtain ⟨rest, hrest⟩ : ∃ r, 18446744073709551615 - 2 ^ V = r := ⟨_, rfl⟩
    rw [hrest] at hm1 hm2 hxr
    have hrl : rest < 18446744073709551616 := by rw [← hrest]; exact Nat.lt_of_le_of_lt (Nat.sub_le _ _) (by decide)
    generalize tab n (hfF V true wsa) = wo at *
    generalize tab n (hfF V false wsa) = wz at *
    generalize tab n (exF V wsa) = we at *
    generalize tab n (varF V) = wx at *
    generalize popS wsa wsa.length = pa at *
    generalize popS wo wo.length = po at *
    generalize popS wz wz.length = pz at *
    generalize supN n wsa = sa at *
    generalize supN n wo = so at *
    generalize supN n we = se at *
    have u1 := u64_and_nat sa rest ls hrl
    have hal : sa &&& rest < 18446744073709551616 := Nat.lt_of_le_of_lt Nat.and_le_left ls
    have u2 := u64_andNot_nat so (sa &&& rest) lo hal
    have u3 := u64_andNot_nat se (sa &&& rest) le hal
    rw [hm1] at u2
    rw [hm2] at u3
    rw [show (((0 : Nat)) : Int) = 0 from rfl] at u2 u3
    have q1 : IntKind.u64.wrap (2 * (pa : Int)) = ((2 * pa : Nat) : Int) := by rw [IntWalk.u64_in _ (by omega)]; simp
    have q2 : IntKind.u64.wrap ((po : Int) + pz) = ((2 * pa : Nat) : Int) := by rw [IntWalk.u64_in _ (by omega), ← hcnt]; simp
    generalize sa &&& rest = sr at *
    generalize sa / 2 ^ V = sq at *
    obtain ⟨rs, hrs⟩ : ∃ r, sm n n wo wz = r := ⟨_, rfl⟩
    have hSO2 := hSO
    simp only [hrs] at hSO2
    rw [hrs] at hbit
    have HBT := Lib.hid hbit
    have hn0 : (0 : Int) ≤ n := by omega
    have hV0 : (0 : Int) ≤ V := by omega
    have hVm : min V 64 = V := by omega
    have HCT := Lib.hid hCt
    have HCF := Lib.hid hCf
    have HE := Lib.hid hE
    have HX := Lib.hid hX
    have HI := Lib.hid hI
    have HT2 := Lib.hid hT2
    have HSA := Lib.hid hSa
    have HSO := Lib.hid hSo
    have HSE := Lib.hid hSe
    have HNA := Lib.hid hNa
    have HNO := Lib.hid hNo
    have HNZ := Lib.hid hNz
    have HSM := Lib.hid hSM
    have HSN := Lib.hid hSN
    have HSO2 := Lib.hid hSO2
    have HWX := Lib.hid hwx
    have HWO := Lib.hid hwo
    have HWZ := Lib.hid hwz
    have HWE := Lib.hid hwe
    have HU := Lib.hid (And.intro hdv (And.intro hxr (And.intro hsw (And.intro u1 (And.intro u2 (And.intro u3 (And.intro q1 q2)))))))
    clear hfr hform hsm hoe hve hC hCt hCf hE hX hI hft hfm hT2 hSa hSo hSe hNa hNo hNz es eo ee hcnt hm1 hm2 hsb ls lo le lc hwx hwo hwz hwe llx llo lle lla hSM hSN hSO hSO2 hp15 hdv hbit hdl hxr hsw hrest hrl u1 u2 u3 hal q1 q2 hrs hn
    go_enter Try.func10, Try.ntmps10
    go_upto_region 1 with fail
    refine wp_world fun w1 hw1 => ?_
    have hs1 : Same w w1 := by rw [hw1]; exact (Frm.refl _ _).alloc _
    have hBXa : Blk w1 (w.heap.size) 24 #[.int .i64 n, .slice Aa wsa.length Ca] := by
      rw [hw1]
      have := (Blk.new w 24 #[.int .i64 n, .slice Aa wsa.length Ca])
      simpa using this
    clear hw1
    have cXa0 : w1.cell? ⟨w.heap.size, 0, none⟩ = some (.int .i64 n) := hBXa.cell 0
    have cXa1 : w1.cell? ⟨w.heap.size, 1, none⟩ = some (.slice Aa wsa.length Ca) := hBXa.cell 1
    have lXa := hBXa.lt
    have fXa0 := hBXa.free 0
    have fXa1 := hBXa.free 1
    have HBXa := Lib.hid hBXa
    have HS1 := Lib.hid hs1
    clear hs1 hBXa
    go_wp2_with (fail)
    refine (awake_any w1).mono ?_
    rintro e w2a ⟨rfl, hs13⟩
    replace HBXa := Lib.hid (HBXa.out.frm hs13 id)
    replace cXa0 : w2a.cell? ⟨w.heap.size, 0, none⟩ = some (.int .i64 n) := HBXa.out.cell 0
    replace cXa1 : w2a.cell? ⟨w.heap.size, 1, none⟩ = some (.slice Aa wsa.length Ca) := HBXa.out.cell 1
    replace lXa := HBXa.out.lt
    replace fXa0 := HBXa.out.free 0
    replace fXa1 := HBXa.out.free 1
    replace HS1 := Lib.hid (HS1.out.trans hs13 (fun _ _ h => h))
    clear hs13
    have HOKa := Lib.hid (H.out.ok.same HS1.out)
    go_wp2_with (fail)
    refine call_world fun w2 hw2 => ?_
    have hs2 : Same w2a w2 := by rw [hw2]; exact (Frm.refl _ _).alloc _
    have hBL : Blk w2 w2a.heap.size 24 #[.int .i64 n, .slice Aa wsa.length Ca] := by rw [hw2]; exact Blk.new _ _ _
    have htbs : Tbs w2 w2a.heap.size [⟨n, Aa, Ca, wsa⟩] := by
      intro i t hi
      match i, hi with
      | 0, hi =>
        simp only [List.getElem?_cons_zero, Option.some.injEq] at hi
        subst hi
        exact ⟨hBL.lt, hBL.cell 0, hBL.cell 1⟩
      | i + 1, hi => simp at hi
    have hfc := good_any w2a.heap.size 1 1 [⟨n, Aa, Ca, wsa⟩] w2 rfl (by decide) htbs (fun t ht => by
      simp only [List.mem_cons, List.not_mem_nil, or_false] at ht
      rcases ht with rfl
      · exact (HOKa.out).same hs2)
    rw [HFM.out] at hfc
    refine hfc.mono ?_
    clear hfc htbs hBL hw2
    rintro e w3 ⟨rfl, hs3⟩
    have hs23 : Same w2a w3 := hs2.trans hs3 (fun _ _ h => h)
    clear hs2 hs3
    replace HBXa := Lib.hid (HBXa.out.frm hs23 id)
    replace cXa0 : w3.cell? ⟨w.heap.size, 0, none⟩ = some (.int .i64 n) := HBXa.out.cell 0
    replace cXa1 : w3.cell? ⟨w.heap.size, 1, none⟩ = some (.slice Aa wsa.length Ca) := HBXa.out.cell 1
    replace lXa := HBXa.out.lt
    replace fXa0 := HBXa.out.free 0
    replace fXa1 := HBXa.out.free 1
    replace HS1 := Lib.hid (HS1.out.trans hs23 (fun _ _ h => h))
    clear hs23
    have hqX : Tv w3 w.heap.size n Aa Ca wsa := ⟨HBXa.out, Sl.same H.out.ok.wl HS1.out⟩
    clear cXa0 cXa1 fXa0 fXa1 lXa HBXa
    have cX0 : w3.cell? ⟨w.heap.size, 0, none⟩ = some (.int .i64 n) := hqX.blk.cell 0
    have cX1 : w3.cell? ⟨w.heap.size, 1, none⟩ = some (.slice Aa wsa.length Ca) := hqX.blk.cell 1
    have lX := hqX.blk.lt
    go_wp2_with (fail)
    refine (HCT.out w3 (H.out.ok.same HS1.out)).mono ?_
    rintro e wa1 ⟨Ao, Co, rfl, hN⟩
    have hs := hN.2.2
    have ho := hN.1.sl ucell_len
    clear hN
    replace HS1 := Lib.hid (HS1.out.trans hs (fun _ _ h => h))
    replace hqX := hqX.same hs
    clear hs
    clear cX0 cX1 lX
    have cX0 : wa1.cell? ⟨w.heap.size, 0, none⟩ = some (.int .i64 n) := hqX.blk.cell 0
    have cX1 : wa1.cell? ⟨w.heap.size, 1, none⟩ = some (.slice Aa wsa.length Ca) := hqX.blk.cell 1
    have lX := hqX.blk.lt
    go_wp2_with (fail)
    refine call_world fun wb1 hwb1 => ?_
    obtain ⟨hqn, hsv⟩ := Tv.make ho hwb1
    clear cX0 cX1 lX
    replace HS1 := Lib.hid (HS1.out.trans hsv (fun _ _ h => h))
    replace hqX := hqX.same hsv
    obtain ⟨To, hTe⟩ : ∃ b, wa1.heap.size = b := ⟨_, rfl⟩
    rw [hTe] at hqn ⊢
    have hqo := hqn
    clear hqn hwb1 hsv hTe ho
    refine (HCF.out wb1 (H.out.ok.same HS1.out)).mono ?_
    rintro e wa2 ⟨Az, Cz, rfl, hN⟩
    have hs := hN.2.2
    have ho := hN.1.sl ucell_len
    clear hN
    replace HS1 := Lib.hid (HS1.out.trans hs (fun _ _ h => h))
    replace hqX := hqX.same hs
    replace hqo := hqo.same hs
    clear hs
    have cX0 : wa2.cell? ⟨w.heap.size, 0, none⟩ = some (.int .i64 n) := hqX.blk.cell 0
    have cX1 : wa2.cell? ⟨w.heap.size, 1, none⟩ = some (.slice Aa wsa.length Ca) := hqX.blk.cell 1
    have lX := hqX.blk.lt
    go_wp2_with (fail)
    refine call_world fun wb2 hwb2 => ?_
    obtain ⟨hqn, hsv⟩ := Tv.make ho hwb2
    clear cX0 cX1 lX
    replace HS1 := Lib.hid (HS1.out.trans hsv (fun _ _ h => h))
    replace hqX := hqX.same hsv
    replace hqo := hqo.same hsv
    obtain ⟨Tz, hTe⟩ : ∃ b, wa2.heap.size = b := ⟨_, rfl⟩
    rw [hTe] at hqn ⊢
    have hqz := hqn
    clear hqn hwb2 hsv hTe ho
    refine (HX.out wb2).mono ?_
    rintro e wa3 ⟨Ax, Cx, rfl, hN⟩
    have hs := hN.2.2
    have ho := hN.1.sl ucell_len
    clear hN
    replace HS1 := Lib.hid (HS1.out.trans hs (fun _ _ h => h))
    replace hqX := hqX.same hs
    replace hqo := hqo.same hs
    replace hqz := hqz.same hs
    clear hs
    have co0 : wa3.cell? ⟨To, 0, none⟩ = some (.int .i64 n) := hqo.blk.cell 0
    have co1 : wa3.cell? ⟨To, 1, none⟩ = some (.slice Ao wo.length Co) := hqo.blk.cell 1
    have lo := hqo.blk.lt
    have cz0 : wa3.cell? ⟨Tz, 0, none⟩ = some (.int .i64 n) := hqz.blk.cell 0
    have cz1 : wa3.cell? ⟨Tz, 1, none⟩ = some (.slice Az wz.length Cz) := hqz.blk.cell 1
    have lz := hqz.blk.lt
    go_wp2_with (fail)
    refine call_world fun wb3 hwb3 => ?_
    obtain ⟨hqn, hsv⟩ := Tv.make ho hwb3
    clear co0 co1 lo cz0 cz1 lz
    replace HS1 := Lib.hid (HS1.out.trans hsv (fun _ _ h => h))
    replace hqX := hqX.same hsv
    replace hqo := hqo.same hsv
    replace hqz := hqz.same hsv
    obtain ⟨Tx, hTe⟩ : ∃ b, wa3.heap.size = b := ⟨_, rfl⟩
    rw [hTe] at hqn ⊢
    have hqx := hqn
    clear hqn hwb3 hsv hTe ho
    refine (HI.out Ax Cx Ao Co Az Cz wb3 ⟨hqx.wl, HWX.out⟩ ⟨hqo.wl, HWO.out⟩ ⟨hqz.wl, HWZ.out⟩).mono ?_
    rintro e wa4 ⟨Ai, Ci, rfl, hN⟩
    have hs := hN.2.2
    have ho := hN.1.sl ucell_len
    clear hN
    replace HS1 := Lib.hid (HS1.out.trans hs (fun _ _ h => h))
    replace hqX := hqX.same hs
    replace hqo := hqo.same hs
    replace hqz := hqz.same hs
    replace hqx := hqx.same hs
    clear hs
    have cX0 : wa4.cell? ⟨w.heap.size, 0, none⟩ = some (.int .i64 n) := hqX.blk.cell 0
    have cX1 : wa4.cell? ⟨w.heap.size, 1, none⟩ = some (.slice Aa wsa.length Ca) := hqX.blk.cell 1
    have lX := hqX.blk.lt
    go_wp2_with (fail)
    refine call_world fun wb4 hwb4 => ?_
    obtain ⟨hqn, hsv⟩ := Tv.make ho hwb4
    clear cX0 cX1 lX
    replace HS1 := Lib.hid (HS1.out.trans hsv (fun _ _ h => h))
    replace hqX := hqX.same hsv
    replace hqo := hqo.same hsv
    replace hqz := hqz.same hsv
    replace hqx := hqx.same hsv
    obtain ⟨Ti, hTe⟩ : ∃ b, wa4.heap.size = b := ⟨_, rfl⟩
    rw [hTe] at hqn ⊢
    have hqi := hqn
    clear hqn hwb4 hsv hTe ho
    refine (HE.out wb4 (H.out.ok.same HS1.out)).mono ?_
    rintro e wa5 ⟨Ae, Ce, rfl, hN⟩
    have hs := hN.2.2
    have ho := hN.1.sl ucell_len
    clear hN
    replace HS1 := Lib.hid (HS1.out.trans hs (fun _ _ h => h))
    replace hqX := hqX.same hs
    replace hqo := hqo.same hs
    replace hqz := hqz.same hs
    replace hqx := hqx.same hs
    replace hqi := hqi.same hs
    clear hs
    go_upto_region 10 with fail
    refine wp_world fun wb5 hwb5 => ?_
    obtain ⟨hqn, hsv⟩ := Tv.make ho hwb5
    replace HS1 := Lib.hid (HS1.out.trans hsv (fun _ _ h => h))
    replace hqX := hqX.same hsv
    replace hqo := hqo.same hsv
    replace hqz := hqz.same hsv
    replace hqx := hqx.same hsv
    replace hqi := hqi.same hsv
    obtain ⟨Te, hTe⟩ : ∃ b, wa5.heap.size = b := ⟨_, rfl⟩
    rw [hTe] at hqn ⊢
    have hqe := hqn
    clear hqn hwb5 hsv hTe ho
    refine wp_phS (fun _ => False) [([0, 1, 2, 3, 4, 5, 6, 7, 8, 9, 10, 11, 12, 13, 14, 15, 16, 17, 18, 19, 20], 21), ([22, 23, 24, 25, 26, 27], 28), ([], 29), ([30], 31)] (by kernel_rfl) (by kernel_rfl) ?_
    simp only [wpPh, pick, List.map_cons, List.map_nil, List.getD_cons_zero, List.getD_cons_succ]
    have cX0 : wb5.cell? ⟨w.heap.size, 0, none⟩ = some (.int .i64 n) := hqX.blk.cell 0
    have cX1 : wb5.cell? ⟨w.heap.size, 1, none⟩ = some (.slice Aa wsa.length Ca) := hqX.blk.cell 1
    have lX := hqX.blk.lt
    have co0 : wb5.cell? ⟨To, 0, none⟩ = some (.int .i64 n) := hqo.blk.cell 0
    have co1 : wb5.cell? ⟨To, 1, none⟩ = some (.slice Ao wo.length Co) := hqo.blk.cell 1
    have lo := hqo.blk.lt
    have cz0 : wb5.cell? ⟨Tz, 0, none⟩ = some (.int .i64 n) := hqz.blk.cell 0
    have cz1 : wb5.cell? ⟨Tz, 1, none⟩ = some (.slice Az wz.length Cz) := hqz.blk.cell 1
    have lz := hqz.blk.lt
    have ci0 : wb5.cell? ⟨Ti, 0, none⟩ = some (.int .i64 n) := hqi.blk.cell 0
    have ci1 : wb5.cell? ⟨Ti, 1, none⟩ = some (.slice Ai wsa.length Ci) := hqi.blk.cell 1
    have li := hqi.blk.lt
    have ce0 : wb5.cell? ⟨Te, 0, none⟩ = some (.int .i64 n) := hqe.blk.cell 0
    have ce1 : wb5.cell? ⟨Te, 1, none⟩ = some (.slice Ae we.length Ce) := hqe.blk.cell 1
    have le := hqe.blk.lt
    have hs : Same wb5 wb5.drew := (Frm.refl _ _).drew
    repeat (any_goals (first | go_big_quiet_step (fail) | quiet_step (fail)))
    refine wpQuiet_nil ?_
    refine effStep_on (by rfl) fun K hK => ?_
    go_simp
    refine (HSM.out Ai Ci Aa Ca _ (hqi.same hs).wl (hqX.same hs).wl).mono ?_
    rintro e u ⟨rfl, hsz⟩
    have hs := hs.trans hsz (fun _ _ h => h)
    refine hK _ _ (Lat.mk_ (Frm.mono hs (fun _ _ h => h.elim))) ?_
    clear hK K
    clear hsz
    repeat (any_goals (first | go_big_quiet_step (fail) | quiet_step (fail)))
    refine wpQuiet_nil ?_
    refine effStep_on (by rfl) fun K hK => ?_
    go_simp
    refine (HT2.out Ao Co Az Cz _ ⟨(hqo.same hs).wl, HWO.out⟩ ⟨(hqz.same hs).wl, HWZ.out⟩).mono ?_
    rintro e u ⟨At, Ct, rfl, hN⟩
    have hs := hs.trans hN.2.2 (fun _ _ h => h)
    have hot := hN.1.sl ucell_len
    refine hK _ _ (Lat.mk_ (Frm.mono hs (fun _ _ h => h.elim))) ?_
    clear hK K
    clear hN
    repeat (any_goals (first | go_big_quiet_step (fail) | quiet_step (fail)))
    refine wpQuiet_nil ?_
    refine effStep_on (by rfl) fun K hK => ?_
    go_simp
    refine (HSN.out Ae Ce At Ct _ (hqe.same hs).wl hot).mono ?_
    rintro e u ⟨rfl, hsz⟩
    have hs := hs.trans hsz (fun _ _ h => h)
    refine hK _ _ (Lat.mk_ (Frm.mono hs (fun _ _ h => h.elim))) ?_
    clear hK K
    clear hsz hot
    clear cX0 cX1 lX co0 co1 lo cz0 cz1 lz ci0 ci1 li ce0 ce1 le
    repeat (any_goals (first | go_big_quiet_step (fail) | quiet_step (fail)))
    refine wpQuiet_nil ?_
    replace HS1 := Lib.hid (HS1.out.trans hs (fun _ _ h => h))
    replace hqX := hqX.same hs
    replace hqo := hqo.same hs
    replace hqz := hqz.same hs
    replace hqx := hqx.same hs
    replace hqi := hqi.same hs
    replace hqe := hqe.same hs
    clear hs
    have cX0 : u.cell? ⟨w.heap.size, 0, none⟩ = some (.int .i64 n) := hqX.blk.cell 0
    have cX1 : u.cell? ⟨w.heap.size, 1, none⟩ = some (.slice Aa wsa.length Ca) := hqX.blk.cell 1
    have lX := hqX.blk.lt
    go_wp2_with (fail)
    refine (HSA.out Aa Ca u (H.out.ok.same HS1.out)).mono ?_
    rintro e v1 ⟨rfl, hs⟩
    clear cX0 cX1 lX
    replace HS1 := Lib.hid (HS1.out.trans hs (fun _ _ h => h))
    replace hqX := hqX.same hs
    replace hqo := hqo.same hs
    replace hqz := hqz.same hs
    replace hqx := hqx.same hs
    replace hqi := hqi.same hs
    replace hqe := hqe.same hs
    clear hs
    have co0 : v1.cell? ⟨To, 0, none⟩ = some (.int .i64 n) := hqo.blk.cell 0
    have co1 : v1.cell? ⟨To, 1, none⟩ = some (.slice Ao wo.length Co) := hqo.blk.cell 1
    have lo := hqo.blk.lt
    go_wp2_with (fail)
    refine (HSO.out Ao Co v1 ⟨hqo.wl, HWO.out⟩).mono ?_
    rintro e v2 ⟨rfl, hs⟩
    clear co0 co1 lo
    replace HS1 := Lib.hid (HS1.out.trans hs (fun _ _ h => h))
    replace hqX := hqX.same hs
    replace hqo := hqo.same hs
    replace hqz := hqz.same hs
    replace hqx := hqx.same hs
    replace hqi := hqi.same hs
    replace hqe := hqe.same hs
    clear hs
    have ce0 : v2.cell? ⟨Te, 0, none⟩ = some (.int .i64 n) := hqe.blk.cell 0
    have ce1 : v2.cell? ⟨Te, 1, none⟩ = some (.slice Ae we.length Ce) := hqe.blk.cell 1
    have le := hqe.blk.lt
    go_wp2_with (fail)
    refine (HSE.out Ae Ce v2 ⟨hqe.wl, HWE.out⟩).mono ?_
    rintro e v3 ⟨rfl, hs⟩
    clear ce0 ce1 le
    replace HS1 := Lib.hid (HS1.out.trans hs (fun _ _ h => h))
    replace hqX := hqX.same hs
    replace hqo := hqo.same hs
    replace hqz := hqz.same hs
    replace hqx := hqx.same hs
    replace hqi := hqi.same hs
    replace hqe := hqe.same hs
    clear hs
    have cX0 : v3.cell? ⟨w.heap.size, 0, none⟩ = some (.int .i64 n) := hqX.blk.cell 0
    have cX1 : v3.cell? ⟨w.heap.size, 1, none⟩ = some (.slice Aa wsa.length Ca) := hqX.blk.cell 1
    have lX := hqX.blk.lt
    go_wp2_with (fail)
    refine (HNA.out Aa Ca v3 (H.out.ok.same HS1.out)).mono ?_
    rintro e v4 ⟨rfl, hs⟩
    clear cX0 cX1 lX
    replace HS1 := Lib.hid (HS1.out.trans hs (fun _ _ h => h))
    replace hqX := hqX.same hs
    replace hqo := hqo.same hs
    replace hqz := hqz.same hs
    replace hqx := hqx.same hs
    replace hqi := hqi.same hs
    replace hqe := hqe.same hs
    clear hs
    have co0 : v4.cell? ⟨To, 0, none⟩ = some (.int .i64 n) := hqo.blk.cell 0
    have co1 : v4.cell? ⟨To, 1, none⟩ = some (.slice Ao wo.length Co) := hqo.blk.cell 1
    have lo := hqo.blk.lt
    go_wp2_with (fail)
    refine (HNO.out Ao Co v4 ⟨hqo.wl, HWO.out⟩).mono ?_
    rintro e v5 ⟨rfl, hs⟩
    clear co0 co1 lo
    replace HS1 := Lib.hid (HS1.out.trans hs (fun _ _ h => h))
    replace hqX := hqX.same hs
    replace hqo := hqo.same hs
    replace hqz := hqz.same hs
    replace hqx := hqx.same hs
    replace hqi := hqi.same hs
    replace hqe := hqe.same hs
    clear hs
    have cz0 : v5.cell? ⟨Tz, 0, none⟩ = some (.int .i64 n) := hqz.blk.cell 0
    have cz1 : v5.cell? ⟨Tz, 1, none⟩ = some (.slice Az wz.length Cz) := hqz.blk.cell 1
    have lz := hqz.blk.lt
    go_wp2_with (fail)
    refine (HNZ.out Az Cz v5 ⟨hqz.wl, HWZ.out⟩).mono ?_
    rintro e v6 ⟨rfl, hs⟩
    clear cz0 cz1 lz
    replace HS1 := Lib.hid (HS1.out.trans hs (fun _ _ h => h))
    replace hqX := hqX.same hs
    replace hqo := hqo.same hs
    replace hqz := hqz.same hs
    replace hqx := hqx.same hs
    replace hqi := hqi.same hs
    replace hqe := hqe.same hs
    clear hs
    obtain ⟨hdv, hxr, hsw, u1, u2, u3, q1, q2⟩ := HU.out
    have hsg : ¬ IntKind.u64.signed = true := by decide
    go_upto_region 21 with fail
    have co0 : v6.cell? ⟨To, 0, none⟩ = some (.int .i64 n) := hqo.blk.cell 0
    have co1 : v6.cell? ⟨To, 1, none⟩ = some (.slice Ao wo.length Co) := hqo.blk.cell 1
    have lo := hqo.blk.lt
    have cz0 : v6.cell? ⟨Tz, 0, none⟩ = some (.int .i64 n) := hqz.blk.cell 0
    have cz1 : v6.cell? ⟨Tz, 1, none⟩ = some (.slice Az wz.length Cz) := hqz.blk.cell 1
    have lz := hqz.blk.lt
    have hbit := HBT.out
    refine wp_quiet (by kernel_rfl) (by kernel_rfl) ?_
    repeat (any_goals (first | go_big_quiet_step ((go_at_call 35; exact quiet_call (HSO2.out Ao Co Az Cz _ (Sl.same hqo.wl (more_same _ _)) (Sl.same hqz.wl (more_same _ _))))) | quiet_step ((go_at_call 35; exact quiet_call (HSO2.out Ao Co Az Cz _ (Sl.same hqo.wl (more_same _ _)) (Sl.same hqz.wl (more_same _ _)))))))
    refine wpQuiet_nil ?_
    rintro wy ⟨q, hq⟩
    have hsz : Same v6 wy := by rw [hq]; exact more_same _ q
    clear hq
    go_wp2
    go_ret
    exact ⟨rfl, (HS1.out.trans hsz (fun _ _ h => h)).to_below (Nat.le_refl _) (fun _ _ => id)⟩
end Go.Proofs.Ytlggmoghgoeiiaa

/- Truth tables: TruthRenames: the walk. -/
namespace Go.Proofs.Ytlggmoghgoeiiaa
open Go.RowKit Go.Tk

theorem info_int : (Try.prog.info? 3).map (fun i => (i.zero, i.size, i.bytes)) = some (some (.int .i64 0), 1, 8) := by kernel_rfl
theorem i_flat : ∀ xs : List Int, xs.flatMap icell = xs.map fun x : Int => Value.int .i64 x
  | [] => rfl
  | x :: xs => by rw [List.flatMap_cons, List.map_cons, i_flat xs]; rfl
theorem il_src {w : World} {A : Option Addr} {n : Nat} {xs : List Int} (h : IL w A n xs) (hne : xs ≠ []) : ∃ ad, A = some ad ∧ ∀ j u, (xs.flatMap icell)[j]? = some u → w.cell? (ad.add j) = some u := by
  obtain ⟨b, off, rfl, _, _⟩ := h.at1 (List.getElem?_eq_getElem (List.length_pos_iff.2 hne))
  refine ⟨_, rfl, fun j u hj => ?_⟩
  rw [i_flat, List.getElem?_map] at hj
  obtain ⟨x', hx', rfl⟩ := Option.map_eq_some_iff.1 hj
  obtain ⟨b2, off2, hA, _, hc⟩ := h.at1 hx'
  injection hA with hA
  injection hA with h1 h2
  subst h1 h2
  by_cases hj0 : j = 0
  · subst hj0; simpa [Addr.add] using hc
  · simpa [Addr.add, hj0] using hc
theorem rnE_len {N : Int} {p : List Int} {ws : List Nat} {G : Nat → Bool} : (ansL (tab N.toNat G) (rnE N p ws)).length ≤ 1000000000000000000 := by
  unfold ansL
  split
  · rename_i h
    unfold rnE at h
    cases hf : frm N ws with
    | false => rw [hf, if_neg (by decide)] at h; cases h
    | true => exact tab_len_le (frm_16 hf)
  · simp
set_option maxRecDepth 100000 in
set_option maxHeartbeats 8000000 in
theorem renames_walk (Na : Int) (Aa : Option Addr) (Ca : Nat) (wsa : List Nat) (Ap : Option Addr) (Lp Cp : Nat) (p : List Int) (w : World) (h : TbIn w ⟨Na, Aa, Ca, wsa⟩) (hp : IL w Ap Lp p) (hr : Lp * 8 ≤ 140737488351232) : Calls Try.prog 8 #[.agg #[.int .i64 Na, .slice Aa wsa.length Ca], .slice Ap Lp Cp] w fun e w' => e = .returned (.bool true) ∧ Below w.heap.size w w' := by
  obtain rfl := hp.len
  have H := Lib.hid h
  have hroom := h.room
  simp only at hroom
  have HI := Lib.hid hp
  have hP := fun A C A2 C2 w h hi => Renamed_any Na A C wsa A2 p.length C2 p w h hi (by omega)
  have hD := fun A C w h hi => docRenamed_any Na A C wsa Ap p.length Cp p w h hi (by omega)
  have hrl := rnE_len (N := Na) (p := p) (ws := wsa) (G := renF Na.toNat p wsa)
  unfold RetA at hP hD
  generalize ansN Na (rnE Na p wsa) = rn at hP hD
  generalize ansL (tab Na.toNat (renF Na.toNat p wsa)) (rnE Na p wsa) = rws at hP hD hrl
  generalize rnE Na p wsa = re at hP hD
  have HP := Lib.hid hP
  have HD := Lib.hid hD
  clear hP hD h hp
  go_enter Try.func8, Try.ntmps8
  go_upto_region 1 with fail
  refine wp_world fun w1 hw1 => ?_
  have hs1 : Same w w1 := by rw [hw1]; exact (Frm.refl _ _).alloc _
  have hBXa : Blk w1 (w.heap.size) 24 #[.int .i64 Na, .slice Aa wsa.length Ca] := by
    rw [hw1]
    have := (Blk.new w 24 #[.int .i64 Na, .slice Aa wsa.length Ca])
    simpa using this
  clear hw1
  have cXa0 : w1.cell? ⟨w.heap.size, 0, none⟩ = some (.int .i64 Na) := hBXa.cell 0
  have cXa1 : w1.cell? ⟨w.heap.size, 1, none⟩ = some (.slice Aa wsa.length Ca) := hBXa.cell 1
  have lXa := hBXa.lt
  have fXa0 := hBXa.free 0
  have fXa1 := hBXa.free 1
  have HBXa := Lib.hid hBXa
  have HS1 := Lib.hid hs1
  clear hs1 hBXa
  go_wp2_with (fail)
  refine (awake_any w1).mono ?_
  rintro e wr ⟨rfl, hs⟩
  replace HBXa := Lib.hid (HBXa.out.frm hs id)
  replace HS1 := Lib.hid (HS1.out.trans hs (fun _ _ h => h))
  clear hs cXa0 cXa1 fXa0 fXa1 lXa
  have cX0 : wr.cell? ⟨w.heap.size, 0, none⟩ = some (.int .i64 Na) := HBXa.out.cell 0
  have cX1 : wr.cell? ⟨w.heap.size, 1, none⟩ = some (.slice Aa wsa.length Ca) := HBXa.out.cell 1
  have lX := HBXa.out.lt
  go_upto_region 3 with fail
  refine wp_region_lit ?_
  refine wpList_read 1 ?_
  simp only [List.take_succ_cons, List.take_zero, List.drop_succ_cons, List.drop_zero]
  repeat (any_goals (first | go_big_quiet_step (fail) | quiet_step (fail)))
  refine wpQuiet_nil ?_
  refine wpList_plain rfl fun K hK => ?_
  go_simp
  refine (rtwin_any Na Aa Ca wsa wr (Sl.same H.out.ok.wl HS1.out) hroom).mono ?_
  rintro e wb ⟨At, Ct, rfl, hNT⟩
  have hs : Same wr wb := hNT.2.2
  have hot := hNT.1
  clear hNT cX0 cX1 lX
  refine hK _ _ ?_
  clear hK K
  refine wpList_plain rfl fun K hK => ?_
  go_simp
  refine hK _ _ ?_
  clear hK K
  refine list_world fun wc hwc => ?_
  have hsc : Same wb wc := by rw [hwc]; exact (Frm.refl _ _).alloc _
  have hO := Own.lit wb 3 icell (fun _ => rfl) [] (by simp) (cs := #[]) rfl
  rw [← hwc] at hO
  clear hwc
  have hotl := hot.block
  have hot := Own.frm hot hsc (fun _ _ => id)
  have hF0 : Fresh wr.heap.size (some ⟨wb.heap.size, 0, none⟩) := fresh_some hs.size
  have hs := hs.trans hsc (fun _ _ h => h)
  generalize wb.heap.size = L0 at *
  have hotb : ∀ a, At = some a → ¬ a.block = L0 := fun a ha h => by have := hotl a ha; omega
  refine wpList_read 1 ?_
  simp only [List.take_succ_cons, List.take_zero, List.drop_succ_cons, List.drop_zero]
  repeat (any_goals (first | go_big_quiet_step (fail) | quiet_step (fail)))
  refine wpQuiet_nil ?_
  refine wpList_plain rfl fun K hK => ?_
  refine Own.append_many (.tmp 14) (.tmp 15) _ rfl Try.underlying59 info_int rfl (by omega) rfl hO (fun _ => rfl) p Ap Cp rfl (fun hne => il_src (Sl.same HI.out (HS1.out.trans hs (fun _ _ h => h))) hne) (by simp [icell, Value.oneCell']) (by simp [maxLen]; omega) (by simp; omega) ?_
  intro Aq Cq wd hOq hg1 hat1
  refine hK _ _ ?_
  clear hK K
  simp only [List.nil_append] at hOq ⊢
  have hs : Same wr wd := hs.grown hg1 (fun g hg => .inr (hF0 g (ownBlock_row.1 hg)))
  have hot := Own.frm hot ((Frm.refl (fun b => b = L0) wc).grown hg1 (fun g hg => .inl (by obtain ⟨a, ha, rfl⟩ := ownBlock_row.1 hg; injection ha with ha; subst ha; rfl))) hotb
  have HQ := Lib.hid (Own.il hOq)
  clear hg1 hat1 hF0 hotb hOq hO hsc
  refine wpList_plain rfl fun K hK => ?_
  go_simp
  refine (HP.out At Ct Aq Cq wd ⟨hot.sl ucell_len, H.out.ok.small⟩ HQ.out).mono ?_
  rintro e we ⟨Au, Cu, rfl, hNT⟩
  refine hK _ _ ?_
  clear hK K
  have hs := hs.trans hNT.2.2 (fun _ _ h => h)
  have hop := hNT.1
  clear hNT hot
  have cX0 : we.cell? ⟨w.heap.size, 0, none⟩ = some (.int .i64 Na) := (HBXa.out.frm hs id).cell 0
  have cX1 : we.cell? ⟨w.heap.size, 1, none⟩ = some (.slice Aa wsa.length Ca) := (HBXa.out.frm hs id).cell 1
  have lX := (HBXa.out.frm hs id).lt
  go_wp2_with (fail)
  refine call_world fun wf hwf => ?_
  have hsv : Same we wf := by rw [hwf]; exact (Frm.refl _ _).alloc _
  have hop := Own.frm hop hsv (fun _ _ => id)
  have hs := hs.trans hsv (fun _ _ h => h)
  have hBp : Blk wf we.heap.size 24 #[.int .i64 rn, .slice Au rws.length Cu] := by rw [hwf]; exact Blk.new _ _ _
  clear hwf hsv cX0 cX1 lX
  generalize we.heap.size = Tp at *
  refine (HD.out Aa Ca wf ((H.out.ok).same (HS1.out.trans hs (fun _ _ h => h))) (Sl.same HI.out (HS1.out.trans hs (fun _ _ h => h)))).mono ?_
  rintro e wg ⟨Av, Cv, rfl, hNT⟩
  have hs := hs.trans hNT.2.2 (fun _ _ h => h)
  have hop := Own.frm hop hNT.2.2 (fun _ _ => id)
  have hBp := hBp.frm hNT.2.2 id
  have hoq := hNT.1
  clear hNT
  have hcp0 : wg.cell? ⟨Tp, 0, none⟩ = some (.int .i64 rn) := hBp.cell 0
  have hcp1 : wg.cell? ⟨Tp, 1, none⟩ = some (.slice Au rws.length Cu) := hBp.cell 1
  have hlp := hBp.lt
  clear hBp
  go_wp2_with (fail)
  refine call_world fun wh hwh => ?_
  have hsv : Same wg wh := by rw [hwh]; exact (Frm.refl _ _).alloc _
  have hop := Own.frm hop hsv (fun _ _ => id)
  have hoq := Own.frm hoq hsv (fun _ _ => id)
  have hs := hs.trans hsv (fun _ _ h => h)
  clear hwh hsv hcp0 hcp1 hlp
  refine (alike_any rn Au rws.length Cu rws re rn Av rws.length Cv rws re wh (hop.sl ucell_len) (hoq.sl ucell_len) hrl).mono ?_
  rintro e wi ⟨rfl, hsv⟩
  rw [sm_self, beq_self_eq_true, Bool.and_true]
  have hs := hs.trans hsv (fun _ _ h => h)
  clear hop hoq hsv
  go_wp2
  go_ret
  exact ⟨rfl, (HS1.out.trans hs (fun _ _ h => h)).to_below (Nat.le_refl _) (fun _ _ => id)⟩
end Go.Proofs.Ytlggmoghgoeiiaa

/- Truth tables: TruthMoves: the walk. -/
namespace Go.Proofs.Ytlggmoghgoeiiaa
open Go.RowKit Go.Tk
theorem two_made (u : World) (n : Nat) (h : n ≤ maxLen) :
    OwnI ((u.alloc (.cells (madeCells #[.int .i64 0] n) 3)).alloc (.cells (madeCells #[.int .i64 0] n) 3)).drew 3 (some ⟨u.heap.size, 0, none⟩) n n (List.replicate n 0) ∧
    OwnI ((u.alloc (.cells (madeCells #[.int .i64 0] n) 3)).alloc (.cells (madeCells #[.int .i64 0] n) 3)).drew 3 (some ⟨u.heap.size + 1, 0, none⟩) n n (List.replicate n 0) ∧
    Same u ((u.alloc (.cells (madeCells #[.int .i64 0] n) 3)).alloc (.cells (madeCells #[.int .i64 0] n) 3)).drew := by
  have h1 := Own.ofMade (m := 1) u 3 icell (fun _ => rfl) (by decide) 0 n h (cs := madeCells #[.int .i64 0] n) (by simp [icell])
  have h2 := Own.ofMade (m := 1) (u.alloc (.cells (madeCells #[.int .i64 0] n) 3)) 3 icell (fun _ => rfl) (by decide) 0 n h (cs := madeCells #[.int .i64 0] n) (by simp [icell])
  rw [World.size_alloc] at h2
  exact ⟨Own.frm h1 (((Frm.refl (fun _ => False) _).alloc _).drew) (fun _ _ => id), Own.frm h2 ((Frm.refl (fun _ => False) _).drew) (fun _ _ => id), (((Frm.refl (fun _ => False) _).alloc _).alloc _).drew⟩
set_option maxRecDepth 100000 in
set_option maxHeartbeats 16000000 in
theorem moves_walk (Na : Int) (Aa : Option Addr) (Ca : Nat) (wsa : List Nat) (Ap : Option Addr) (Lp Cp : Nat) (p : List Int) (Aq : Option Addr) (Lq Cq : Nat) (q : List Int) (w : World) (h : TbIn w ⟨Na, Aa, Ca, wsa⟩) (hp : IL w Ap Lp p) (hr : Lp * 8 ≤ 140737488351232) (hq : IL w Aq Lq q) (hr2 : Lq * 8 ≤ 140737488351232) : Calls Try.prog 11 #[.agg #[.int .i64 Na, .slice Aa wsa.length Ca], .slice Ap Lp Cp, .slice Aq Lq Cq] w fun e w' => e = .returned (.bool true) ∧ Below w.heap.size w w' := by
  have H := Lib.hid h
  have HSM := Lib.hid h.ok.small
  have HIP := Lib.hid hp
  have HIQ := Lib.hid hq
  have hP := fun A C A2 C2 w h hi => Renamed_any Na A C wsa A2 Lp C2 p w h hi (by omega)
  unfold RetA at hP
  cases hfr : frm Na wsa with
  | false =>
    have hre : rnE Na p wsa = 5 := by unfold rnE; rw [hfr, if_neg (by decide)]
    simp only [hre] at hP
    have HFM := Lib.hid ((frm_one Na Aa Ca wsa).trans hfr)
    generalize ansN Na 5 = rn at hP
    generalize ansL (tab Na.toNat (renF Na.toNat p wsa)) 5 = rws at hP
    have HP := Lib.hid hP
    clear hP h hp hq hfr hre
    go_enter Try.func11, Try.ntmps11
    go_upto_region 1 with fail
    refine wp_world fun w1 hw1 => ?_
    obtain ⟨hqX, hs1⟩ := Tv.make H.out.ok.wl hw1
    have HS1 := Lib.hid hs1
    clear hw1 hs1
    have hlp := Lib.hid (Sl.same HIP.out HS1.out)
    have hlq := Lib.hid (Sl.same HIQ.out HS1.out)
    go_wp2_with (fail)
    refine (awake_any w1).mono ?_
    rintro e u1 ⟨rfl, hs⟩
    replace HS1 := Lib.hid (HS1.out.trans hs (fun _ _ h => h))
    replace hqX := hqX.same hs
    replace hlp := Lib.hid (Sl.same hlp.out hs)
    replace hlq := Lib.hid (Sl.same hlq.out hs)
    clear hs
    have cX0 : u1.cell? ⟨w.heap.size, 0, none⟩ = some (.int .i64 Na) := hqX.blk.cell 0
    have cX1 : u1.cell? ⟨w.heap.size, 1, none⟩ = some (.slice Aa wsa.length Ca) := hqX.blk.cell 1
    have lX := hqX.blk.lt
    go_wp2_with (fail)
    refine (HP.out Aa Ca Ap Cp u1 ⟨hqX.wl, HSM.out⟩ hlp.out).mono ?_
    rintro e u2 ⟨Ax, Cx, rfl, hN⟩
    clear cX0 cX1 lX
    have hs := hN.2.2
    have ho := hN.1.sl ucell_len
    clear hN
    replace HS1 := Lib.hid (HS1.out.trans hs (fun _ _ h => h))
    replace hqX := hqX.same hs
    replace hlp := Lib.hid (Sl.same hlp.out hs)
    replace hlq := Lib.hid (Sl.same hlq.out hs)
    clear hs
    go_upto_region 4 with fail
    refine wp_world fun b3 hb3 => ?_
    obtain ⟨hqn, hsv⟩ := Tv.make ho hb3
    replace HS1 := Lib.hid (HS1.out.trans hsv (fun _ _ h => h))
    replace hqX := hqX.same hsv
    replace hlp := Lib.hid (Sl.same hlp.out hsv)
    replace hlq := Lib.hid (Sl.same hlq.out hsv)
    obtain ⟨Tx, hTe⟩ : ∃ b, u2.heap.size = b := ⟨_, rfl⟩
    rw [hTe] at hqn ⊢
    have hqx := hqn
    clear hqn hb3 hsv hTe ho
    have cX0 : b3.cell? ⟨w.heap.size, 0, none⟩ = some (.int .i64 Na) := hqX.blk.cell 0
    have cX1 : b3.cell? ⟨w.heap.size, 1, none⟩ = some (.slice Aa wsa.length Ca) := hqX.blk.cell 1
    have lX := hqX.blk.lt
    go_wp2_with (fail)
    refine call_world fun b4 hb4 => ?_
    have hs2 : Same b3 b4 := by rw [hb4]; exact (Frm.refl _ _).alloc _
    have hBL : Blk b4 b3.heap.size 24 #[.int .i64 Na, .slice Aa wsa.length Ca] := by rw [hb4]; exact Blk.new _ _ _
    have htbs : Tbs b4 b3.heap.size [⟨Na, Aa, Ca, wsa⟩] := by
      intro i t hi
      match i, hi with
      | 0, hi =>
        simp only [List.getElem?_cons_zero, Option.some.injEq] at hi
        subst hi
        exact ⟨hBL.lt, hBL.cell 0, hBL.cell 1⟩
      | i + 1, hi => simp at hi
    have hfc := good_any b3.heap.size 1 1 [⟨Na, Aa, Ca, wsa⟩] b4 rfl (by decide) htbs (fun t ht => by
      simp only [List.mem_cons, List.not_mem_nil, or_false] at ht
      rcases ht with rfl
      · exact TbOk.same ⟨hqX.wl, HSM.out⟩ hs2)
    rw [HFM.out] at hfc
    refine hfc.mono ?_
    clear hfc htbs hBL hb4
    rintro e u5 ⟨rfl, hs3⟩
    have hs := hs2.trans hs3 (fun _ _ h => h)
    clear hs2 hs3
    clear cX0 cX1 lX
    replace HS1 := Lib.hid (HS1.out.trans hs (fun _ _ h => h))
    replace hqX := hqX.same hs
    replace hqx := hqx.same hs
    replace hlp := Lib.hid (Sl.same hlp.out hs)
    replace hlq := Lib.hid (Sl.same hlq.out hs)
    clear hs
    go_wp2
    go_ret
    exact ⟨rfl, HS1.out.to_below (Nat.le_refl _) (fun _ _ => id)⟩
  | true =>
    obtain ⟨n, rfl, hform⟩ := frm_true hfr
    have HFM := Lib.hid ((frm_one n Aa Ca wsa).trans hfr)
    have hn := hform.n16
    have hMp := fun w h => mapped_any Ap Lp Cp p n w h hn (by omega)
    have hMq := fun w h => mapped_any Aq Lq Cq q n w h hn (by omega)
    cases hpp : prmB n p with
    | false =>
      have hre : rnE n p wsa = 4 := by unfold rnE; rw [hfr, if_pos rfl, Int.toNat_natCast, hpp, if_neg (by decide)]
      simp only [hre] at hP
      generalize ansN (n : Int) 4 = rn at hP
      generalize ansL (tab (n : Int).toNat (renF (n : Int).toNat p wsa)) 4 = rws at hP
      have HP := Lib.hid hP
      rw [hpp] at hMp
      have HMp := Lib.hid hMp
      clear hP h hp hq hfr hre hpp hMp hMq hform
      go_enter Try.func11, Try.ntmps11
      go_upto_region 1 with fail
      refine wp_world fun w1 hw1 => ?_
      obtain ⟨hqX, hs1⟩ := Tv.make H.out.ok.wl hw1
      have HS1 := Lib.hid hs1
      clear hw1 hs1
      have hlp := Lib.hid (Sl.same HIP.out HS1.out)
      have hlq := Lib.hid (Sl.same HIQ.out HS1.out)
      go_wp2_with (fail)
      refine (awake_any w1).mono ?_
      rintro e u1 ⟨rfl, hs⟩
      replace HS1 := Lib.hid (HS1.out.trans hs (fun _ _ h => h))
      replace hqX := hqX.same hs
      replace hlp := Lib.hid (Sl.same hlp.out hs)
      replace hlq := Lib.hid (Sl.same hlq.out hs)
      clear hs
      have cX0 : u1.cell? ⟨w.heap.size, 0, none⟩ = some (.int .i64 n) := hqX.blk.cell 0
      have cX1 : u1.cell? ⟨w.heap.size, 1, none⟩ = some (.slice Aa wsa.length Ca) := hqX.blk.cell 1
      have lX := hqX.blk.lt
      go_wp2_with (fail)
      refine (HP.out Aa Ca Ap Cp u1 ⟨hqX.wl, HSM.out⟩ hlp.out).mono ?_
      rintro e u2 ⟨Ax, Cx, rfl, hN⟩
      clear cX0 cX1 lX
      have hs := hN.2.2
      have ho := hN.1.sl ucell_len
      clear hN
      replace HS1 := Lib.hid (HS1.out.trans hs (fun _ _ h => h))
      replace hqX := hqX.same hs
      replace hlp := Lib.hid (Sl.same hlp.out hs)
      replace hlq := Lib.hid (Sl.same hlq.out hs)
      clear hs
      go_upto_region 4 with fail
      refine wp_world fun b3 hb3 => ?_
      obtain ⟨hqn, hsv⟩ := Tv.make ho hb3
      replace HS1 := Lib.hid (HS1.out.trans hsv (fun _ _ h => h))
      replace hqX := hqX.same hsv
      replace hlp := Lib.hid (Sl.same hlp.out hsv)
      replace hlq := Lib.hid (Sl.same hlq.out hsv)
      obtain ⟨Tx, hTe⟩ : ∃ b, u2.heap.size = b := ⟨_, rfl⟩
      rw [hTe] at hqn ⊢
      have hqx := hqn
      clear hqn hb3 hsv hTe ho
      have cX0 : b3.cell? ⟨w.heap.size, 0, none⟩ = some (.int .i64 n) := hqX.blk.cell 0
      have cX1 : b3.cell? ⟨w.heap.size, 1, none⟩ = some (.slice Aa wsa.length Ca) := hqX.blk.cell 1
      have lX := hqX.blk.lt
      go_wp2_with (fail)
      refine call_world fun b4 hb4 => ?_
      have hs2 : Same b3 b4 := by rw [hb4]; exact (Frm.refl _ _).alloc _
      have hBL : Blk b4 b3.heap.size 24 #[.int .i64 n, .slice Aa wsa.length Ca] := by rw [hb4]; exact Blk.new _ _ _
      have htbs : Tbs b4 b3.heap.size [⟨n, Aa, Ca, wsa⟩] := by
        intro i t hi
        match i, hi with
        | 0, hi =>
          simp only [List.getElem?_cons_zero, Option.some.injEq] at hi
          subst hi
          exact ⟨hBL.lt, hBL.cell 0, hBL.cell 1⟩
        | i + 1, hi => simp at hi
      have hfc := good_any b3.heap.size 1 1 [⟨n, Aa, Ca, wsa⟩] b4 rfl (by decide) htbs (fun t ht => by
        simp only [List.mem_cons, List.not_mem_nil, or_false] at ht
        rcases ht with rfl
        · exact TbOk.same ⟨hqX.wl, HSM.out⟩ hs2)
      rw [HFM.out] at hfc
      refine hfc.mono ?_
      clear hfc htbs hBL hb4
      rintro e u5 ⟨rfl, hs3⟩
      have hs := hs2.trans hs3 (fun _ _ h => h)
      clear hs2 hs3
      clear cX0 cX1 lX
      replace HS1 := Lib.hid (HS1.out.trans hs (fun _ _ h => h))
      replace hqX := hqX.same hs
      replace hqx := hqx.same hs
      replace hlp := Lib.hid (Sl.same hlp.out hs)
      replace hlq := Lib.hid (Sl.same hlq.out hs)
      clear hs
      have cX0 : u5.cell? ⟨w.heap.size, 0, none⟩ = some (.int .i64 n) := hqX.blk.cell 0
      have cX1 : u5.cell? ⟨w.heap.size, 1, none⟩ = some (.slice Aa wsa.length Ca) := hqX.blk.cell 1
      have lX := hqX.blk.lt
      go_wp2_with (fail)
      refine (HMp.out u5 hlp.out).mono ?_
      rintro e u6 ⟨rfl, hs⟩
      clear cX0 cX1 lX
      replace HS1 := Lib.hid (HS1.out.trans hs (fun _ _ h => h))
      replace hqX := hqX.same hs
      replace hqx := hqx.same hs
      replace hlp := Lib.hid (Sl.same hlp.out hs)
      replace hlq := Lib.hid (Sl.same hlq.out hs)
      clear hs
      go_wp2
      go_ret
      exact ⟨rfl, HS1.out.to_below (Nat.le_refl _) (fun _ _ => id)⟩
    | true =>
      rw [hpp] at hMp
      cases hqq : prmB n q with
      | false =>
        have hre : rnE n p wsa = 0 := by unfold rnE; rw [hfr, if_pos rfl, Int.toNat_natCast, hpp, if_pos rfl]
        simp only [hre] at hP
        generalize ansN (n : Int) 0 = rn at hP
        generalize ansL (tab (n : Int).toNat (renF (n : Int).toNat p wsa)) 0 = rws at hP
        have HP := Lib.hid hP
        rw [hqq] at hMq
        have HMp := Lib.hid hMp
        have HMq := Lib.hid hMq
        clear hP h hp hq hfr hre hpp hqq hMp hMq hform
        go_enter Try.func11, Try.ntmps11
        go_upto_region 1 with fail
        refine wp_world fun w1 hw1 => ?_
        obtain ⟨hqX, hs1⟩ := Tv.make H.out.ok.wl hw1
        have HS1 := Lib.hid hs1
        clear hw1 hs1
        have hlp := Lib.hid (Sl.same HIP.out HS1.out)
        have hlq := Lib.hid (Sl.same HIQ.out HS1.out)
        go_wp2_with (fail)
        refine (awake_any w1).mono ?_
        rintro e u1 ⟨rfl, hs⟩
        replace HS1 := Lib.hid (HS1.out.trans hs (fun _ _ h => h))
        replace hqX := hqX.same hs
        replace hlp := Lib.hid (Sl.same hlp.out hs)
        replace hlq := Lib.hid (Sl.same hlq.out hs)
        clear hs
        have cX0 : u1.cell? ⟨w.heap.size, 0, none⟩ = some (.int .i64 n) := hqX.blk.cell 0
        have cX1 : u1.cell? ⟨w.heap.size, 1, none⟩ = some (.slice Aa wsa.length Ca) := hqX.blk.cell 1
        have lX := hqX.blk.lt
        go_wp2_with (fail)
        refine (HP.out Aa Ca Ap Cp u1 ⟨hqX.wl, HSM.out⟩ hlp.out).mono ?_
        rintro e u2 ⟨Ax, Cx, rfl, hN⟩
        clear cX0 cX1 lX
        have hs := hN.2.2
        have ho := hN.1.sl ucell_len
        clear hN
        replace HS1 := Lib.hid (HS1.out.trans hs (fun _ _ h => h))
        replace hqX := hqX.same hs
        replace hlp := Lib.hid (Sl.same hlp.out hs)
        replace hlq := Lib.hid (Sl.same hlq.out hs)
        clear hs
        go_upto_region 4 with fail
        refine wp_world fun b3 hb3 => ?_
        obtain ⟨hqn, hsv⟩ := Tv.make ho hb3
        replace HS1 := Lib.hid (HS1.out.trans hsv (fun _ _ h => h))
        replace hqX := hqX.same hsv
        replace hlp := Lib.hid (Sl.same hlp.out hsv)
        replace hlq := Lib.hid (Sl.same hlq.out hsv)
        obtain ⟨Tx, hTe⟩ : ∃ b, u2.heap.size = b := ⟨_, rfl⟩
        rw [hTe] at hqn ⊢
        have hqx := hqn
        clear hqn hb3 hsv hTe ho
        have cX0 : b3.cell? ⟨w.heap.size, 0, none⟩ = some (.int .i64 n) := hqX.blk.cell 0
        have cX1 : b3.cell? ⟨w.heap.size, 1, none⟩ = some (.slice Aa wsa.length Ca) := hqX.blk.cell 1
        have lX := hqX.blk.lt
        go_wp2_with (fail)
        refine call_world fun b4 hb4 => ?_
        have hs2 : Same b3 b4 := by rw [hb4]; exact (Frm.refl _ _).alloc _
        have hBL : Blk b4 b3.heap.size 24 #[.int .i64 n, .slice Aa wsa.length Ca] := by rw [hb4]; exact Blk.new _ _ _
        have htbs : Tbs b4 b3.heap.size [⟨n, Aa, Ca, wsa⟩] := by
          intro i t hi
          match i, hi with
          | 0, hi =>
            simp only [List.getElem?_cons_zero, Option.some.injEq] at hi
            subst hi
            exact ⟨hBL.lt, hBL.cell 0, hBL.cell 1⟩
          | i + 1, hi => simp at hi
        have hfc := good_any b3.heap.size 1 1 [⟨n, Aa, Ca, wsa⟩] b4 rfl (by decide) htbs (fun t ht => by
          simp only [List.mem_cons, List.not_mem_nil, or_false] at ht
          rcases ht with rfl
          · exact TbOk.same ⟨hqX.wl, HSM.out⟩ hs2)
        rw [HFM.out] at hfc
        refine hfc.mono ?_
        clear hfc htbs hBL hb4
        rintro e u5 ⟨rfl, hs3⟩
        have hs := hs2.trans hs3 (fun _ _ h => h)
        clear hs2 hs3
        clear cX0 cX1 lX
        replace HS1 := Lib.hid (HS1.out.trans hs (fun _ _ h => h))
        replace hqX := hqX.same hs
        replace hqx := hqx.same hs
        replace hlp := Lib.hid (Sl.same hlp.out hs)
        replace hlq := Lib.hid (Sl.same hlq.out hs)
        clear hs
        have cX0 : u5.cell? ⟨w.heap.size, 0, none⟩ = some (.int .i64 n) := hqX.blk.cell 0
        have cX1 : u5.cell? ⟨w.heap.size, 1, none⟩ = some (.slice Aa wsa.length Ca) := hqX.blk.cell 1
        have lX := hqX.blk.lt
        go_wp2_with (fail)
        refine (HMp.out u5 hlp.out).mono ?_
        rintro e u6 ⟨rfl, hs⟩
        clear cX0 cX1 lX
        replace HS1 := Lib.hid (HS1.out.trans hs (fun _ _ h => h))
        replace hqX := hqX.same hs
        replace hqx := hqx.same hs
        replace hlp := Lib.hid (Sl.same hlp.out hs)
        replace hlq := Lib.hid (Sl.same hlq.out hs)
        clear hs
        have cX0 : u6.cell? ⟨w.heap.size, 0, none⟩ = some (.int .i64 n) := hqX.blk.cell 0
        have cX1 : u6.cell? ⟨w.heap.size, 1, none⟩ = some (.slice Aa wsa.length Ca) := hqX.blk.cell 1
        have lX := hqX.blk.lt
        go_wp2_with (fail)
        refine (HMq.out u6 hlq.out).mono ?_
        rintro e u7 ⟨rfl, hs⟩
        clear cX0 cX1 lX
        replace HS1 := Lib.hid (HS1.out.trans hs (fun _ _ h => h))
        replace hqX := hqX.same hs
        replace hqx := hqx.same hs
        replace hlp := Lib.hid (Sl.same hlp.out hs)
        replace hlq := Lib.hid (Sl.same hlq.out hs)
        clear hs
        go_wp2
        go_ret
        exact ⟨rfl, HS1.out.to_below (Nat.le_refl _) (fun _ _ => id)⟩
      | true =>
        have hre : rnE n p wsa = 0 := by unfold rnE; rw [hfr, if_pos rfl, Int.toNat_natCast, hpp, if_pos rfl]
        simp only [hre] at hP
        rw [hqq] at hMq
        rw [show ansN (n : Int) 0 = n from rfl, show ansL (tab (n : Int).toNat (renF (n : Int).toNat p wsa)) 0 = tab n (renF n p wsa) from rfl] at hP
        have hPp := prmB_true.1 hpp
        have hPq := prmB_true.1 hqq
        have hlpn : Lp = n := by rw [← hPp.len]; exact hp.len
        have hlqn : Lp = Lq := by rw [hlpn, ← hPq.len]; exact hq.len.symm
        subst hlpn
        subst hlqn
        obtain ⟨wx, hwx⟩ : ∃ x, tab Lp (renF Lp p wsa) = x := ⟨_, rfl⟩
        have hmk := fun w => run_make_n (P := Try.prog) Try.underlying59 info_int .i64 .i64 Lp (show 8 * Lp ≤ 281474976710656 by omega) (show Lp ≤ 9223372036854775807 by omega) w
        have hBk := bkL_perm hPp
        have hBo := boL_perm hPp hPq
        have hft : ∀ F : Nat → Bool, frm Lp (tab Lp F) = true := fun F => frm_nat.2 (tab_form hn)
        have hsm := H.out.ok.small
        simp only at hsm
        have hC := fun A C A2 C2 w h hi => Renamed_any Lp A C wx A2 Lp C2 (bkL Lp p Lp) w h hi (by omega)
        have hD := fun A C A2 C2 w h hi => Renamed_any Lp A C wx A2 Lp C2 q w h hi (by omega)
        have hE := fun A C A2 C2 w h hi => Renamed_any Lp A C wsa A2 Lp C2 (boL Lp p q Lp) w h hi (by omega)
        have e1 : rnE Lp (bkL Lp p Lp) wx = 0 := by unfold rnE; rw [← hwx, hft, if_pos rfl, Int.toNat_natCast, prmB_true.2 hBk, if_pos rfl]
        have e2 : rnE Lp q wx = 0 := by unfold rnE; rw [← hwx, hft, if_pos rfl, Int.toNat_natCast, hqq, if_pos rfl]
        have e3 : rnE Lp (boL Lp p q Lp) wsa = 0 := by unfold rnE; rw [hfr, if_pos rfl, Int.toNat_natCast, prmB_true.2 hBo, if_pos rfl]
        have f1 := ren_back (ws := wsa) hform hsm hPp
        have f2 := ren_both (ws := wsa) hPp hPq
        rw [hwx] at f1 f2
        unfold RetA at hC hD hE
        simp only [e1, e2, e3, show ansN (Lp : Int) 0 = Lp from rfl, ansL, if_pos, Int.toNat_natCast, f1, f2] at hC hD hE
        obtain ⟨wg, hwg⟩ : ∃ x, tab Lp (renF Lp (boL Lp p q Lp) wsa) = x := ⟨_, rfl⟩
        rw [hwg] at hD hE
        have hSa := fun A C w h => Support_any Lp A C wsa w h
        have hSx := fun A C w h => Support_any Lp A C wx w h
        have hNa := fun A C w h => Count_any Lp A C wsa w h
        have hNx := fun A C w h => Count_any Lp A C wx w h
        have hfx : frm Lp wx = true := by rw [← hwx]; exact hft _
        rw [hfr] at hSa hNa
        rw [hfx] at hSx hNx
        rw [if_pos rfl] at hNa hNx
        rw [show fmE true = 0 from rfl] at hSa hSx hNa hNx
        have es : supN Lp wsa = bsum (depB Lp wsa) Lp := by unfold supN; rw [hfr, if_pos rfl]; rfl
        have ex : supN Lp wx = sg p (supN Lp wsa) Lp := by rw [es, ← ren_sup hPp, hwx]; unfold supN; rw [hfx, if_pos rfl]; rfl
        rw [ex] at hSx
        have en : popS wx wx.length = popS wsa wsa.length := by rw [← hwx, popS_form (tab_form hn), popS_form hform, ren_cnt hPp]
        rw [en] at hNx
        have ls : supN Lp wsa < 18446744073709551616 := by rw [es]; exact Nat.lt_of_lt_of_le (bsum_lt _ Lp) (show 2 ^ Lp ≤ 2 ^ 64 from Nat.pow_le_pow_right (by omega) (by omega))
        have lc : popS wsa wsa.length ≤ 65536 := by rw [popS_form hform]; exact Nat.le_trans (cntB_le _ _) (pow_le16 hn)
        generalize supN Lp wsa = sa at hSa hSx ls
        generalize popS wsa wsa.length = pa at hNa hNx lc
        have hsgl := fun (k : Nat) (h : k ≤ Lp) => Nat.lt_of_lt_of_le (sg_lt hPp sa k h) (pow_le16 hn)
        have hsgo := fun (k : Nat) (h : k < Lp) => sg_or hPp sa h
        have lla : wsa.length ≤ 1000000000000000000 := by rw [hform.len]; have := nw_le hn; omega
        have llg : wg.length ≤ 1000000000000000000 := by rw [← hwg]; exact tab_len_le hn
        have hSM := fun A1 C1 A2 C2 w h1 h2 => same_any Lp A1 wsa.length C1 wsa Lp A2 wsa.length C2 wsa w h1 h2 lla
        have hSN := fun A1 C1 A2 C2 w h1 h2 => same_any Lp A1 wg.length C1 wg Lp A2 wg.length C2 wg w h1 h2 llg
        simp only [sm_self] at hSM hSN
        have hwxs : Small wx := by rw [← hwx]; exact tab_small _ _
        have HC := Lib.hid hC
        have HD := Lib.hid hD
        have HE := Lib.hid hE
        have HSA := Lib.hid hSa
        have HSX := Lib.hid hSx
        have HNA := Lib.hid hNa
        have HNX := Lib.hid hNx
        have HGL := Lib.hid hsgl
        have HGO := Lib.hid hsgo
        have HSAM := Lib.hid hSM
        have HSBM := Lib.hid hSN
        have HWXS := Lib.hid hwxs
        clear hBk hBo hft hsm hC hD hE e1 e2 e3 f1 f2 hwg hSa hSx hNa hNx hfx es ex en lc hsgl hsgo lla llg hSM hSN hwxs
        rw [hwx] at hP
        have HWX := Lib.hid hwx
        have HP := Lib.hid hP
        have HMp := Lib.hid hMp
        have HMq := Lib.hid hMq
        have HPP := Lib.hid hPp
        have HPQ := Lib.hid hPq
        have HFO := Lib.hid hform
        clear hP h hp hq hfr hre hpp hqq hMp hMq hform hPp hPq hwx
        go_enter Try.func11, Try.ntmps11
        go_upto_region 1 with fail
        refine wp_world fun w1 hw1 => ?_
        obtain ⟨hqX, hs1⟩ := Tv.make H.out.ok.wl hw1
        have HS1 := Lib.hid hs1
        clear hw1 hs1
        have hlp := Lib.hid (Sl.same HIP.out HS1.out)
        have hlq := Lib.hid (Sl.same HIQ.out HS1.out)
        go_wp2_with (fail)
        refine (awake_any w1).mono ?_
        rintro e u1 ⟨rfl, hs⟩
        replace HS1 := Lib.hid (HS1.out.trans hs (fun _ _ h => h))
        replace hqX := hqX.same hs
        replace hlp := Lib.hid (Sl.same hlp.out hs)
        replace hlq := Lib.hid (Sl.same hlq.out hs)
        clear hs
        have cX0 : u1.cell? ⟨w.heap.size, 0, none⟩ = some (.int .i64 Lp) := hqX.blk.cell 0
        have cX1 : u1.cell? ⟨w.heap.size, 1, none⟩ = some (.slice Aa wsa.length Ca) := hqX.blk.cell 1
        have lX := hqX.blk.lt
        go_wp2_with (fail)
        refine (HP.out Aa Ca Ap Cp u1 ⟨hqX.wl, HSM.out⟩ hlp.out).mono ?_
        rintro e u2 ⟨Ax, Cx, rfl, hN⟩
        clear cX0 cX1 lX
        have hs := hN.2.2
        have ho := hN.1.sl ucell_len
        clear hN
        replace HS1 := Lib.hid (HS1.out.trans hs (fun _ _ h => h))
        replace hqX := hqX.same hs
        replace hlp := Lib.hid (Sl.same hlp.out hs)
        replace hlq := Lib.hid (Sl.same hlq.out hs)
        clear hs
        go_upto_region 4 with fail
        refine wp_world fun b3 hb3 => ?_
        obtain ⟨hqn, hsv⟩ := Tv.make ho hb3
        replace HS1 := Lib.hid (HS1.out.trans hsv (fun _ _ h => h))
        replace hqX := hqX.same hsv
        replace hlp := Lib.hid (Sl.same hlp.out hsv)
        replace hlq := Lib.hid (Sl.same hlq.out hsv)
        obtain ⟨Tx, hTe⟩ : ∃ b, u2.heap.size = b := ⟨_, rfl⟩
        rw [hTe] at hqn ⊢
        have hqx := hqn
        clear hqn hb3 hsv hTe ho
        have cX0 : b3.cell? ⟨w.heap.size, 0, none⟩ = some (.int .i64 Lp) := hqX.blk.cell 0
        have cX1 : b3.cell? ⟨w.heap.size, 1, none⟩ = some (.slice Aa wsa.length Ca) := hqX.blk.cell 1
        have lX := hqX.blk.lt
        go_wp2_with (fail)
        refine call_world fun b4 hb4 => ?_
        have hs2 : Same b3 b4 := by rw [hb4]; exact (Frm.refl _ _).alloc _
        have hBL : Blk b4 b3.heap.size 24 #[.int .i64 Lp, .slice Aa wsa.length Ca] := by rw [hb4]; exact Blk.new _ _ _
        have htbs : Tbs b4 b3.heap.size [⟨Lp, Aa, Ca, wsa⟩] := by
          intro i t hi
          match i, hi with
          | 0, hi =>
            simp only [List.getElem?_cons_zero, Option.some.injEq] at hi
            subst hi
            exact ⟨hBL.lt, hBL.cell 0, hBL.cell 1⟩
          | i + 1, hi => simp at hi
        have hfc := good_any b3.heap.size 1 1 [⟨Lp, Aa, Ca, wsa⟩] b4 rfl (by decide) htbs (fun t ht => by
          simp only [List.mem_cons, List.not_mem_nil, or_false] at ht
          rcases ht with rfl
          · exact TbOk.same ⟨hqX.wl, HSM.out⟩ hs2)
        rw [HFM.out] at hfc
        refine hfc.mono ?_
        clear hfc htbs hBL hb4
        rintro e u5 ⟨rfl, hs3⟩
        have hs := hs2.trans hs3 (fun _ _ h => h)
        clear hs2 hs3
        clear cX0 cX1 lX
        replace HS1 := Lib.hid (HS1.out.trans hs (fun _ _ h => h))
        replace hqX := hqX.same hs
        replace hqx := hqx.same hs
        replace hlp := Lib.hid (Sl.same hlp.out hs)
        replace hlq := Lib.hid (Sl.same hlq.out hs)
        clear hs
        have cX0 : u5.cell? ⟨w.heap.size, 0, none⟩ = some (.int .i64 Lp) := hqX.blk.cell 0
        have cX1 : u5.cell? ⟨w.heap.size, 1, none⟩ = some (.slice Aa wsa.length Ca) := hqX.blk.cell 1
        have lX := hqX.blk.lt
        go_wp2_with (fail)
        refine (HMp.out u5 hlp.out).mono ?_
        rintro e u6 ⟨rfl, hs⟩
        clear cX0 cX1 lX
        replace HS1 := Lib.hid (HS1.out.trans hs (fun _ _ h => h))
        replace hqX := hqX.same hs
        replace hqx := hqx.same hs
        replace hlp := Lib.hid (Sl.same hlp.out hs)
        replace hlq := Lib.hid (Sl.same hlq.out hs)
        clear hs
        have cX0 : u6.cell? ⟨w.heap.size, 0, none⟩ = some (.int .i64 Lp) := hqX.blk.cell 0
        have cX1 : u6.cell? ⟨w.heap.size, 1, none⟩ = some (.slice Aa wsa.length Ca) := hqX.blk.cell 1
        have lX := hqX.blk.lt
        go_wp2_with (fail)
        refine (HMq.out u6 hlq.out).mono ?_
        rintro e u7 ⟨rfl, hs⟩
        clear cX0 cX1 lX
        replace HS1 := Lib.hid (HS1.out.trans hs (fun _ _ h => h))
        replace hqX := hqX.same hs
        replace hqx := hqx.same hs
        replace hlp := Lib.hid (Sl.same hlp.out hs)
        replace hlq := Lib.hid (Sl.same hlq.out hs)
        clear hs
        have cX0 : u7.cell? ⟨w.heap.size, 0, none⟩ = some (.int .i64 Lp) := hqX.blk.cell 0
        have cX1 : u7.cell? ⟨w.heap.size, 1, none⟩ = some (.slice Aa wsa.length Ca) := hqX.blk.cell 1
        have lX := hqX.blk.lt
        have hXc := hqX
        go_upto_region 10 with fail
        go_cut [9, 10] (fun s9 s10 wx => ∃ D E : Nat, s9 = .slice (some ⟨D, 0, none⟩) Lp Lp ∧ s10 = .slice (some ⟨E, 0, none⟩) Lp Lp ∧ D ≠ E ∧ u7.heap.size ≤ D ∧ u7.heap.size ≤ E ∧ OwnI wx 3 (some ⟨D, 0, none⟩) Lp Lp (List.replicate Lp 0) ∧ OwnI wx 3 (some ⟨E, 0, none⟩) Lp Lp (List.replicate Lp 0) ∧ Same u7 wx)
        case first =>
          refine wp_tS (fun _ => False) (.q [0, 1, 3, 4] (.fork 2 (.q [6] (.step 5 (.last 7))) 5 (.step 2 (.q [6] (.last 7))))) (by kernel_rfl) (by kernel_rfl) ?_
          simp only [wpT, pick, List.map_cons, List.map_nil, List.getD_cons_zero, List.getD_cons_succ]
          repeat (any_goals (first | go_big_quiet_step (fail) | quiet_step (fail)))
          refine wpQuiet_nil ?_
          have hqd : Same u7 u7.drew := (Frm.refl _ _).drew
          refine ⟨?_, ?_⟩
          · refine effStep_plain rfl fun K hK => ?_
            go_simp
            refine hK _ _ (Lat.mk_ (Frm.alloc hqd _)) ?_
            clear hK K
            repeat (any_goals (first | go_big_quiet_step (fail) | quiet_step (fail)))
            refine wpQuiet_nil ?_
            refine effStep_plain rfl fun K hK => ?_
            go_simp
            refine hK _ _ (Lat.mk_ (Frm.alloc (Frm.alloc hqd _) _)) ?_
            clear hK K
            go_wp2_with fail
            go_meet
            obtain ⟨g1, g2, g3⟩ := two_made u7 Lp (by simp [maxLen]; omega)
            exact ⟨u7.heap.size, u7.heap.size + 1, rfl, rfl, by omega, Nat.le_refl _, by omega, g1, g2, g3⟩
          · refine effStep_plain rfl fun K hK => ?_
            go_simp
            refine hK _ _ (Lat.mk_ (Frm.alloc hqd _)) ?_
            clear hK K
            refine effStep_plain rfl fun K hK => ?_
            go_simp
            refine hK _ _ (Lat.mk_ (Frm.alloc (Frm.alloc hqd _) _)) ?_
            clear hK K
            repeat (any_goals (first | go_big_quiet_step (fail) | quiet_step (fail)))
            refine wpQuiet_nil ?_
            go_wp2_with fail
            go_meet
            obtain ⟨g1, g2, g3⟩ := two_made u7 Lp (by simp [maxLen]; omega)
            exact ⟨u7.heap.size + 1, u7.heap.size, rfl, rfl, by omega, by omega, Nat.le_refl _, g2, g1, g3⟩
        case rest =>
          obtain ⟨D, E, rfl, rfl, hDE, hD0, hE0, hOD, hOE, hsc⟩ := hcut
          clear cX0 cX1 lX
          clear hmk hXc
          have hDw : w.heap.size ≤ D := by have := HS1.out.size; omega
          have hEw : w.heap.size ≤ E := by have := HS1.out.size; omega
          have HOD := Lib.hid hOD
          have HOE := Lib.hid hOE
          clear hOD hOE
          go_wp2
          go_loopw [61] (fun i wr => ∃ k : Nat, k ≤ Lp ∧ i = .int .i64 k ∧ Same u7 wr ∧ OwnI wr 3 (some ⟨D, 0, none⟩) Lp Lp (bkL Lp p k) ∧ OwnI wr 3 (some ⟨E, 0, none⟩) Lp Lp (boL Lp p q k)) (fun i _ => Lp - (intOf i).toNat)
          case atStart => exact ⟨0, by omega, rfl, hsc, HOD.out, HOE.out⟩
          case round =>
            obtain ⟨k, hk, rfl, hs0, hOD, hOE⟩ := hrel
            have HS0 := Lib.hid hs0
            clear hsc HOD HOE
            by_cases hlt : k < Lp
            · have hgk := HPP.out.get hlt
              have hal := HPP.out.lt hlt
              have hgq := HPQ.out.get hal
              obtain ⟨bp, op, hA, hb, hc⟩ := hlp.out.at1 hgk
              obtain ⟨bq, oq, hA2, hb2, hc2⟩ := hlq.out.at1 hgq
              have hbl := HPQ.out.lt hal
              replace hc := (hs0.cell (p := ⟨bp, op + k, none⟩) hb id).trans hc
              replace hc2 := (hs0.cell (p := ⟨bq, oq + pv p k, none⟩) hb2 id).trans hc2
              have hb' : bp < wr.heap.size := Nat.lt_of_lt_of_le hb hs0.size
              have hb2' : bq < wr.heap.size := Nat.lt_of_lt_of_le hb2 hs0.size
              have n1 : bp ≠ D := by omega
              have n2 : bq ≠ D := by omega
              have n3 : D ≠ bp := by omega
              have n4 : D ≠ bq := by omega
              obtain ⟨vD, hvD⟩ : ∃ x, (bkL Lp p k)[pv p k]? = some x := ⟨_, List.getElem?_eq_getElem (by rw [bkL_len]; exact hal)⟩
              obtain ⟨vE, hvE⟩ : ∃ x, (boL Lp p q k)[k]? = some x := ⟨_, List.getElem?_eq_getElem (by rw [boL_len]; exact hlt)⟩
              obtain ⟨sb, hsb, hsl, hcd⟩ := Own.at1 (c := fun x : Int => .int .i64 x) hOD hvD
              injection hsb with hsb
              injection hsb with hsb
              subst hsb
              obtain ⟨sb, hsb, hsl2, hce⟩ := Own.at1 (c := fun x : Int => .int .i64 x) hOE hvE
              injection hsb with hsb
              injection hsb with hsb
              subst hsb
              have hfd := Own.free hOD (pv p k)
              have hfe := Own.free hOE k
              have hd1 := Own.put1 (c := fun x : Int => .int .i64 x) hOD (i := pv p k) (by rw [bkL_len]; exact hal) (k : Int)
              have hd2 := Own.far (p := ⟨E, k, none⟩) hd1 (fun a ha h => by injection ha with ha; subst ha; exact hDE h) (.int .i64 (pv q (pv p k) : Nat))
              have he1 := Own.far (p := ⟨D, pv p k, none⟩) hOE (fun a ha h => by injection ha with ha; subst ha; exact hDE h.symm) (.int .i64 (k : Int))
              have he2 := Own.put1 (c := fun x : Int => .int .i64 x) he1 (i := k) (by rw [boL_len]; exact hlt) (pv q (pv p k) : Nat)
              have hq0 : q.getD (pv p k) 0 = (pv q (pv p k) : Nat) := by rw [List.getD_eq_getElem?_getD, hgq]; rfl
              have hst : OwnI _ 3 (some ⟨D, 0, none⟩) Lp Lp (bkL Lp p (k + 1)) ∧ OwnI _ 3 (some ⟨E, 0, none⟩) Lp Lp (boL Lp p q (k + 1)) := ⟨hd2, by rw [boL, hq0]; exact he2⟩
              have HST := Lib.hid hst
              clear hst hd1 hd2 he1 he2 hq0 hOD hOE hgk hgq hvD hvE hs0
              subst hA
              subst hA2
              generalize pv p k = a at *
              generalize pv q a = b at *
              have hk0 : (0 : Int) ≤ k := by omega
              have hk1 : (k : Int) < Lp := by omega
              have ha0 : (0 : Int) ≤ a := by omega
              have ha1 : (a : Int) < Lp := by omega
              have hED : E ≠ D := Ne.symm hDE
              go_wp2
              go_roundw
              case rel => exact ⟨k + 1, by omega, by go_num, (HS0.out.setNew a _ hD0).setNew k _ hE0, HST.out⟩
              case measure => simp [intOf]; omega
            · obtain rfl : Lp = k := by omega
              have hrD := Lib.hid hOD
              have hrE := Lib.hid hOE
              clear hOD hOE HS0
              replace HS1 := Lib.hid (HS1.out.trans hs0 (fun _ _ h => h))
              replace hqX := hqX.same hs0
              replace hqx := hqx.same hs0
              replace hlp := Lib.hid (Sl.same hlp.out hs0)
              replace hlq := Lib.hid (Sl.same hlq.out hs0)
              clear hs0
              have cx0 : wr.cell? ⟨Tx, 0, none⟩ = some (.int .i64 Lp) := hqx.blk.cell 0
              have cx1 : wr.cell? ⟨Tx, 1, none⟩ = some (.slice Ax wx.length Cx) := hqx.blk.cell 1
              have lx := hqx.blk.lt
              go_wp2_with (fail)
              refine (HC.out Ax Cx (some ⟨D, 0, none⟩) Lp wr ⟨hqx.wl, HWXS.out⟩ (Own.il hrD.out)).mono ?_
              rintro e u8 ⟨Ay, Cy, rfl, hN⟩
              clear cx0 cx1 lx
              have hs := hN.2.2
              have ho := hN.1.sl ucell_len
              clear hN
              replace HS1 := Lib.hid (HS1.out.trans hs (fun _ _ h => h))
              replace hqX := hqX.same hs
              replace hqx := hqx.same hs
              replace hlp := Lib.hid (Sl.same hlp.out hs)
              replace hlq := Lib.hid (Sl.same hlq.out hs)
              replace hrD := Lib.hid (Own.frm hrD.out hs (fun _ _ => id))
              replace hrE := Lib.hid (Own.frm hrE.out hs (fun _ _ => id))
              clear hs
              have cx0 : u8.cell? ⟨Tx, 0, none⟩ = some (.int .i64 Lp) := hqx.blk.cell 0
              have cx1 : u8.cell? ⟨Tx, 1, none⟩ = some (.slice Ax wx.length Cx) := hqx.blk.cell 1
              have lx := hqx.blk.lt
              go_wp2_with (fail)
              refine call_world fun b9 hb9 => ?_
              obtain ⟨hqn, hsv⟩ := Tv.make ho hb9
              clear cx0 cx1 lx
              replace HS1 := Lib.hid (HS1.out.trans hsv (fun _ _ h => h))
              replace hqX := hqX.same hsv
              replace hqx := hqx.same hsv
              replace hlp := Lib.hid (Sl.same hlp.out hsv)
              replace hlq := Lib.hid (Sl.same hlq.out hsv)
              replace hrD := Lib.hid (Own.frm hrD.out hsv (fun _ _ => id))
              replace hrE := Lib.hid (Own.frm hrE.out hsv (fun _ _ => id))
              obtain ⟨Ty, hTe⟩ : ∃ b, u8.heap.size = b := ⟨_, rfl⟩
              rw [hTe] at hqn ⊢
              have hqy := hqn
              clear hqn hb9 hsv hTe ho
              refine (HD.out Ax Cx Aq Cq b9 ⟨hqx.wl, HWXS.out⟩ hlq.out).mono ?_
              rintro e u10 ⟨Az, Cz, rfl, hN⟩
              have hs := hN.2.2
              have ho := hN.1.sl ucell_len
              clear hN
              replace HS1 := Lib.hid (HS1.out.trans hs (fun _ _ h => h))
              replace hqX := hqX.same hs
              replace hqx := hqx.same hs
              replace hqy := hqy.same hs
              replace hlp := Lib.hid (Sl.same hlp.out hs)
              replace hlq := Lib.hid (Sl.same hlq.out hs)
              replace hrD := Lib.hid (Own.frm hrD.out hs (fun _ _ => id))
              replace hrE := Lib.hid (Own.frm hrE.out hs (fun _ _ => id))
              clear hs
              have cX0 : u10.cell? ⟨w.heap.size, 0, none⟩ = some (.int .i64 Lp) := hqX.blk.cell 0
              have cX1 : u10.cell? ⟨w.heap.size, 1, none⟩ = some (.slice Aa wsa.length Ca) := hqX.blk.cell 1
              have lX := hqX.blk.lt
              go_wp2_with (fail)
              refine call_world fun b11 hb11 => ?_
              obtain ⟨hqn, hsv⟩ := Tv.make ho hb11
              clear cX0 cX1 lX
              replace HS1 := Lib.hid (HS1.out.trans hsv (fun _ _ h => h))
              replace hqX := hqX.same hsv
              replace hqx := hqx.same hsv
              replace hqy := hqy.same hsv
              replace hlp := Lib.hid (Sl.same hlp.out hsv)
              replace hlq := Lib.hid (Sl.same hlq.out hsv)
              replace hrD := Lib.hid (Own.frm hrD.out hsv (fun _ _ => id))
              replace hrE := Lib.hid (Own.frm hrE.out hsv (fun _ _ => id))
              obtain ⟨Tz, hTe⟩ : ∃ b, u10.heap.size = b := ⟨_, rfl⟩
              rw [hTe] at hqn ⊢
              have hqz := hqn
              clear hqn hb11 hsv hTe ho
              refine (HE.out Aa Ca (some ⟨E, 0, none⟩) Lp b11 ⟨hqX.wl, HSM.out⟩ (Own.il hrE.out)).mono ?_
              rintro e u12 ⟨Au, Cu, rfl, hN⟩
              have hs := hN.2.2
              have ho := hN.1.sl ucell_len
              clear hN
              replace HS1 := Lib.hid (HS1.out.trans hs (fun _ _ h => h))
              replace hqX := hqX.same hs
              replace hqx := hqx.same hs
              replace hqy := hqy.same hs
              replace hqz := hqz.same hs
              replace hlp := Lib.hid (Sl.same hlp.out hs)
              replace hlq := Lib.hid (Sl.same hlq.out hs)
              replace hrD := Lib.hid (Own.frm hrD.out hs (fun _ _ => id))
              replace hrE := Lib.hid (Own.frm hrE.out hs (fun _ _ => id))
              clear hs
              go_upto_region 20 with fail
              refine wp_world fun b13 hb13 => ?_
              obtain ⟨hqn, hsv⟩ := Tv.make ho hb13
              replace HS1 := Lib.hid (HS1.out.trans hsv (fun _ _ h => h))
              replace hqX := hqX.same hsv
              replace hqx := hqx.same hsv
              replace hqy := hqy.same hsv
              replace hqz := hqz.same hsv
              replace hlp := Lib.hid (Sl.same hlp.out hsv)
              replace hlq := Lib.hid (Sl.same hlq.out hsv)
              replace hrD := Lib.hid (Own.frm hrD.out hsv (fun _ _ => id))
              replace hrE := Lib.hid (Own.frm hrE.out hsv (fun _ _ => id))
              obtain ⟨Tu, hTe⟩ : ∃ b, u12.heap.size = b := ⟨_, rfl⟩
              rw [hTe] at hqn ⊢
              have hqu := hqn
              clear hqn hb13 hsv hTe ho
              have cy0 : b13.cell? ⟨Ty, 0, none⟩ = some (.int .i64 Lp) := hqy.blk.cell 0
              have cy1 : b13.cell? ⟨Ty, 1, none⟩ = some (.slice Ay wsa.length Cy) := hqy.blk.cell 1
              have ly := hqy.blk.lt
              have cX0 : b13.cell? ⟨w.heap.size, 0, none⟩ = some (.int .i64 Lp) := hqX.blk.cell 0
              have cX1 : b13.cell? ⟨w.heap.size, 1, none⟩ = some (.slice Aa wsa.length Ca) := hqX.blk.cell 1
              have lX := hqX.blk.lt
              go_wp2_with (fail)
              refine (HSAM.out Ay Cy Aa Ca b13 hqy.wl hqX.wl).mono ?_
              rintro e u14 ⟨rfl, hs⟩
              clear cy0 cy1 ly cX0 cX1 lX
              replace HS1 := Lib.hid (HS1.out.trans hs (fun _ _ h => h))
              replace hqX := hqX.same hs
              replace hqx := hqx.same hs
              replace hqy := hqy.same hs
              replace hqz := hqz.same hs
              replace hqu := hqu.same hs
              replace hlp := Lib.hid (Sl.same hlp.out hs)
              replace hlq := Lib.hid (Sl.same hlq.out hs)
              replace hrD := Lib.hid (Own.frm hrD.out hs (fun _ _ => id))
              replace hrE := Lib.hid (Own.frm hrE.out hs (fun _ _ => id))
              clear hs
              have cz0 : u14.cell? ⟨Tz, 0, none⟩ = some (.int .i64 Lp) := hqz.blk.cell 0
              have cz1 : u14.cell? ⟨Tz, 1, none⟩ = some (.slice Az wg.length Cz) := hqz.blk.cell 1
              have lz := hqz.blk.lt
              have cu0 : u14.cell? ⟨Tu, 0, none⟩ = some (.int .i64 Lp) := hqu.blk.cell 0
              have cu1 : u14.cell? ⟨Tu, 1, none⟩ = some (.slice Au wg.length Cu) := hqu.blk.cell 1
              have lu := hqu.blk.lt
              go_wp2_with (fail)
              refine (HSBM.out Az Cz Au Cu u14 hqz.wl hqu.wl).mono ?_
              rintro e u15 ⟨rfl, hs⟩
              clear cz0 cz1 lz cu0 cu1 lu
              replace HS1 := Lib.hid (HS1.out.trans hs (fun _ _ h => h))
              replace hqX := hqX.same hs
              replace hqx := hqx.same hs
              replace hqy := hqy.same hs
              replace hqz := hqz.same hs
              replace hqu := hqu.same hs
              replace hlp := Lib.hid (Sl.same hlp.out hs)
              replace hlq := Lib.hid (Sl.same hlq.out hs)
              replace hrD := Lib.hid (Own.frm hrD.out hs (fun _ _ => id))
              replace hrE := Lib.hid (Own.frm hrE.out hs (fun _ _ => id))
              clear hs
              have cX0 : u15.cell? ⟨w.heap.size, 0, none⟩ = some (.int .i64 Lp) := hqX.blk.cell 0
              have cX1 : u15.cell? ⟨w.heap.size, 1, none⟩ = some (.slice Aa wsa.length Ca) := hqX.blk.cell 1
              have lX := hqX.blk.lt
              go_wp2_with (fail)
              refine (HSA.out Aa Ca u15 ⟨hqX.wl, HSM.out⟩).mono ?_
              rintro e u16 ⟨rfl, hs⟩
              clear cX0 cX1 lX
              replace HS1 := Lib.hid (HS1.out.trans hs (fun _ _ h => h))
              replace hqX := hqX.same hs
              replace hqx := hqx.same hs
              replace hqy := hqy.same hs
              replace hqz := hqz.same hs
              replace hqu := hqu.same hs
              replace hlp := Lib.hid (Sl.same hlp.out hs)
              replace hlq := Lib.hid (Sl.same hlq.out hs)
              replace hrD := Lib.hid (Own.frm hrD.out hs (fun _ _ => id))
              replace hrE := Lib.hid (Own.frm hrE.out hs (fun _ _ => id))
              clear hs
              have cx0 : u16.cell? ⟨Tx, 0, none⟩ = some (.int .i64 Lp) := hqx.blk.cell 0
              have cx1 : u16.cell? ⟨Tx, 1, none⟩ = some (.slice Ax wx.length Cx) := hqx.blk.cell 1
              have lx := hqx.blk.lt
              go_wp2_with (fail)
              refine (HSX.out Ax Cx u16 ⟨hqx.wl, HWXS.out⟩).mono ?_
              rintro e u17 ⟨rfl, hs⟩
              clear cx0 cx1 lx
              replace HS1 := Lib.hid (HS1.out.trans hs (fun _ _ h => h))
              replace hqX := hqX.same hs
              replace hqx := hqx.same hs
              replace hqy := hqy.same hs
              replace hqz := hqz.same hs
              replace hqu := hqu.same hs
              replace hlp := Lib.hid (Sl.same hlp.out hs)
              replace hlq := Lib.hid (Sl.same hlq.out hs)
              replace hrD := Lib.hid (Own.frm hrD.out hs (fun _ _ => id))
              replace hrE := Lib.hid (Own.frm hrE.out hs (fun _ _ => id))
              clear hs
              have cX0 : u17.cell? ⟨w.heap.size, 0, none⟩ = some (.int .i64 Lp) := hqX.blk.cell 0
              have cX1 : u17.cell? ⟨w.heap.size, 1, none⟩ = some (.slice Aa wsa.length Ca) := hqX.blk.cell 1
              have lX := hqX.blk.lt
              go_wp2_with (fail)
              refine (HNA.out Aa Ca u17 ⟨hqX.wl, HSM.out⟩).mono ?_
              rintro e u18 ⟨rfl, hs⟩
              clear cX0 cX1 lX
              replace HS1 := Lib.hid (HS1.out.trans hs (fun _ _ h => h))
              replace hqX := hqX.same hs
              replace hqx := hqx.same hs
              replace hqy := hqy.same hs
              replace hqz := hqz.same hs
              replace hqu := hqu.same hs
              replace hlp := Lib.hid (Sl.same hlp.out hs)
              replace hlq := Lib.hid (Sl.same hlq.out hs)
              replace hrD := Lib.hid (Own.frm hrD.out hs (fun _ _ => id))
              replace hrE := Lib.hid (Own.frm hrE.out hs (fun _ _ => id))
              clear hs
              have cx0 : u18.cell? ⟨Tx, 0, none⟩ = some (.int .i64 Lp) := hqx.blk.cell 0
              have cx1 : u18.cell? ⟨Tx, 1, none⟩ = some (.slice Ax wx.length Cx) := hqx.blk.cell 1
              have lx := hqx.blk.lt
              go_wp2_with (fail)
              refine (HNX.out Ax Cx u18 ⟨hqx.wl, HWXS.out⟩).mono ?_
              rintro e u19 ⟨rfl, hs⟩
              clear cx0 cx1 lx
              replace HS1 := Lib.hid (HS1.out.trans hs (fun _ _ h => h))
              replace hqX := hqX.same hs
              replace hqx := hqx.same hs
              replace hqy := hqy.same hs
              replace hqz := hqz.same hs
              replace hqu := hqu.same hs
              replace hlp := Lib.hid (Sl.same hlp.out hs)
              replace hlq := Lib.hid (Sl.same hlq.out hs)
              replace hrD := Lib.hid (Own.frm hrD.out hs (fun _ _ => id))
              replace hrE := Lib.hid (Own.frm hrE.out hs (fun _ _ => id))
              clear hs
              clear hDE hD0 hE0 hDw hEw
              go_wp2
              go_loopw [23, 148] (fun m i wr => ∃ k : Nat, k ≤ Lp ∧ i = .int .i64 k ∧ m = .int .u64 (sg p sa k : Nat) ∧ Same u19 wr) (fun _ i _ => Lp - (intOf i).toNat)
              case atStart => exact ⟨0, by omega, rfl, rfl, Frm.refl _ _⟩
              case round =>
                obtain ⟨k, hk, rfl, rfl, hs0⟩ := hrel
                have hsl := HGL.out k (by omega)
                by_cases hlt : k < Lp
                · have hgk := HPP.out.get hlt
                  obtain ⟨bp, op, hA, hb, hc⟩ := (Sl.same hlp.out hs0).at1 hgk
                  have hal := HPP.out.lt hlt
                  have hor := HGO.out k hlt
                  clear hgk
                  have HS0 := Lib.hid hs0
                  clear hs0
                  generalize pv p k = a at *
                  obtain ⟨s1, hse⟩ : ∃ x, sg p sa (k + 1) = x := ⟨_, rfl⟩
                  rw [hse] at hor
                  have HSE := Lib.hid hse
                  clear hse
                  generalize sg p sa k = s0 at *
                  subst hA
                  have hk0 : (0 : Int) ≤ k := by omega
                  have hk1 : (k : Int) < Lp := by omega
                  have ha0 : (0 : Int) ≤ a := by omega
                  have hma : min a 64 = a := by omega
                  have hmk : min k 64 = k := by omega
                  obtain ⟨q1, b1, c1, hd1, hd2, hd3, hd4, hb2, hq2, hc2⟩ := step_u (k := k) (u := a) ls (by omega) hsl hor
                  clear hor
                  go_upto_region 30 with fail
                  refine wp_quiet (by kernel_rfl) (by kernel_rfl) ?_
                  repeat (any_goals (first | go_big_quiet_step (fail) | quiet_step (fail)))
                  refine wpQuiet_nil ?_
                  rintro wy ⟨pq, hpq⟩
                  have hsz := HS0.out.trans (show Same wr wy by rw [hpq]; exact more_same _ pq) (fun _ _ h => h)
                  clear hpq
                  go_wp2
                  go_roundw
                  case rel => exact ⟨k + 1, by omega, by go_num, by rw [HSE.out], hsz⟩
                  case measure => simp [intOf]; omega
                · obtain rfl : Lp = k := by omega
                  have HS0 := Lib.hid hs0
                  clear hs0
                  go_wp2
                  go_ret
                  exact ⟨by simp, (HS1.out.trans HS0.out (fun _ _ h => h)).to_below (Nat.le_refl _) (fun _ _ => id)⟩
end Go.Proofs.Ytlggmoghgoeiiaa

/- The walk of TrMove beside the given rows. -/
