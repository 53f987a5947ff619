/- Contracts and plain laws, put together in one file. No condition. -/
import Derived.Test.YtlggmoghgoeiiaaJTruthRenames4
import Derived.Test.YtlggmoghgoeiiaaRows

/- Truth tables: Renamed of the program. -/
namespace Go.Tk
/-- which numbers stand among the first k -/
def seenL (xs : List Int) (k n : Nat) : List Bool := (List.range n).map fun j : Nat => decide ((j : Int) ∈ xs.take k)
theorem seenL_len (xs : List Int) (k n : Nat) : (seenL xs k n).length = n := by simp [seenL]
theorem seenL_get (xs : List Int) (k : Nat) {n j : Nat} (h : j < n) : (seenL xs k n)[j]? = some (decide ((j : Int) ∈ xs.take k)) := by simp [seenL, h]
theorem seenL_zero (xs : List Int) (n : Nat) : seenL xs 0 n = List.replicate n false := by
  apply List.ext_getElem?
  intro j
  rcases Nat.lt_or_ge j n with h | h
  · rw [seenL_get xs 0 h]; simp [h]
  · rw [List.getElem?_eq_none (by rw [seenL_len]; exact h), List.getElem?_eq_none (by simpa using h)]
theorem seenL_set {xs : List Int} {k n : Nat} {x : Nat} (h : xs[k]? = some (x : Int)) (hx : x < n) : (seenL xs k n).set x true = seenL xs (k + 1) n := by
  apply List.ext_getElem?
  intro j
  rcases Nat.lt_or_ge j n with hj | hj
  · rw [seenL_get xs (k + 1) hj, List.getElem?_set, seenL_len, seenL_get xs k hj, take_add1 h]
    split
    · rename_i he; subst he; simp
    · rename_i hne
      congr 1
      have : ¬ ((j : Int) = (x : Int)) := by omega
      simp [this]
  · rw [List.getElem?_eq_none (by simp [seenL_len, hj]), List.getElem?_eq_none (by rw [seenL_len]; exact hj)]
def GoodN (n : Nat) (xs : List Int) (k : Nat) : Prop := (∀ x, x ∈ xs.take k → 0 ≤ x ∧ x < n) ∧ (xs.take k).Nodup
theorem GoodN.next {n : Nat} {xs : List Int} {k : Nat} {x : Int} (h : GoodN n xs k) (hx : xs[k]? = some x) (h0 : 0 ≤ x) (h1 : x < n) (hn : x ∉ xs.take k) : GoodN n xs (k + 1) := by
  unfold GoodN
  rw [take_add1 hx]
  refine ⟨fun y hy => ?_, ?_⟩
  · rcases List.mem_append.1 hy with hy | hy
    · exact h.1 y hy
    · simp at hy; subst hy; exact ⟨h0, h1⟩
  · rw [List.nodup_append]
    exact ⟨h.2, by simp, fun a ha b hb => by simp at hb; subst hb; rintro rfl; exact hn ha⟩
theorem prmB_range {n : Nat} {xs : List Int} {k : Nat} {x : Int} (hx : xs[k]? = some x) (h : x < 0 ∨ (n : Int) ≤ x) : prmB n xs = false := by
  cases hp : prmB n xs with
  | false => rfl
  | true =>
    have h1 := prmB_true.1 hp
    have h2 := h1.perm.1 x (List.mem_of_getElem? hx)
    rw [h1.len] at h2
    omega
theorem prmB_dup {n : Nat} {xs : List Int} {k : Nat} {x : Int} (hx : xs[k]? = some x) (h : x ∈ xs.take k) : prmB n xs = false := by
  cases hp : prmB n xs with
  | false => rfl
  | true =>
    have h1 := prmB_true.1 hp
    have h3 : (xs.take (k + 1)).Nodup := h1.perm.2.sublist (List.take_sublist _ _)
    rw [take_add1 hx, List.nodup_append] at h3
    exact absurd rfl (h3.2.2 x h x (by simp))
theorem prmB_good {n : Nat} {xs : List Int} (h : GoodN n xs xs.length) (hl : xs.length = n) : PermN n xs := by
  unfold GoodN at h
  rw [List.take_length] at h
  exact ⟨hl, fun x hx => by rw [hl]; exact h.1 x hx, h.2⟩
theorem prmB_len {n : Nat} {xs : List Int} (h : xs.length ≠ n) : prmB n xs = false := by
  cases hp : prmB n xs with
  | false => rfl
  | true => exact absurd (prmB_true.1 hp).len h
theorem ren_zero (n : Nat) (p : List Int) (ws : List Nat) : ((List.range (nw n)).map fun _ => 0 &&& fullN n) = tab n (renP n p ws 0) := by
  unfold tab
  apply List.map_congr_left
  intro k _
  rw [Nat.zero_and]
  symm
  unfold word
  have : ∀ m, bsum (fun j => decide (64 * k + j < 2 ^ n) && renP n p ws 0 (64 * k + j)) m = 0 := by
    intro m
    induction m with
    | zero => rfl
    | succ m ih => rw [bsum, ih, renP_zero]; simp
  exact this 64
end Go.Tk
namespace Go.Proofs.Ytlggmoghgoeiiaa
open Go.RowKit Go.Tk

theorem mul_le16 {b u : Nat} (hb : b < 2) (hu : u < 16) : b * 2 ^ u ≤ 65536 := by
  have hpu : 2 ^ u ≤ 65536 := pow_le16 (show u ≤ 16 by omega)
  have h01 : b = 0 ∨ b = 1 := by omega
  rcases h01 with rfl | rfl
  · rw [Nat.zero_mul]; exact Nat.zero_le _
  · rw [Nat.one_mul]; exact hpu
theorem step_i {k m u s t : Nat} (hk : k < 65536) (hu : u < 16) (hs : s < 65536) (ht : s ||| (k / 2 ^ m % 2) * 2 ^ u = t) : ∃ q b c : Nat, (k : Int) / 2 ^ m = (q : Int) ∧ bits .and .i64 (q : Int) 1 = (b : Int) ∧ wrap64 ((b : Int) * 2 ^ u) = (c : Int) ∧ IntKind.i64.wrap ((b : Int) * 2 ^ u) = (c : Int) ∧ bits .or .i64 (s : Int) (c : Int) = (t : Int) ∧ c ≤ 65536 ∧ b < 2 ∧ q < 65536 ∧ (b : Int) * 2 ^ u = (c : Int) := by
  have hqk : k / 2 ^ m ≤ k := Nat.div_le_self _ _
  have hd2 := i64_and_nat (k / 2 ^ m) 1 (by omega) (by omega)
  rw [nat_mask1] at hd2
  have hb2 : k / 2 ^ m % 2 < 2 := Nat.mod_lt _ (by omega)
  have hc := mul_le16 hb2 hu
  have hmul : ((k / 2 ^ m % 2 : Nat) : Int) * 2 ^ u = (((k / 2 ^ m % 2) * 2 ^ u : Nat) : Int) := by rw [pow_int, ← Int.natCast_mul]
  refine ⟨k / 2 ^ m, k / 2 ^ m % 2, (k / 2 ^ m % 2) * 2 ^ u, by rw [pow_int]; exact (Int.natCast_ediv _ _).symm, hd2, ?_, ?_, ?_, hc, hb2, by omega, hmul⟩
  · rw [hmul]
    generalize (k / 2 ^ m % 2) * 2 ^ u = c at hc
    exact IntWalk.wrap64_in _ (by omega)
  · rw [hmul]
    generalize (k / 2 ^ m % 2) * 2 ^ u = c at hc
    exact IntWalk.i64_in _ (by omega)
  · rw [← ht]
    generalize (k / 2 ^ m % 2) * 2 ^ u = c at hc
    exact i64_or_nat s c (by omega) (by omega)
theorem step_w {x y r1 r2 : Nat} {v : Bool} (hx : x < 18446744073709551616) (hy : y < 18446744073709551616) (hr : r2 < 64) (hv : v = y.testBit r1) :
    ∃ z b c : Nat, (y : Int) / 2 ^ r1 = (z : Int) ∧ bits .and .u64 (z : Int) 1 = (b : Int) ∧ IntKind.u64.wrap ((b : Int) * 2 ^ r2) = (c : Int) ∧ bits .or .u64 (x : Int) (c : Int) = ((x ||| (if v then 1 else 0) * 2 ^ r2 : Nat) : Int) ∧ b < 2 ∧ z < 18446744073709551616 ∧ c < 18446744073709551616 := by
  have hyq : y / 2 ^ r1 ≤ y := Nat.div_le_self _ _
  have hbit : y / 2 ^ r1 % 2 = if v then 1 else 0 := by
    rw [hv, Nat.testBit_eq_decide_div_mod_eq]
    rcases Nat.mod_two_eq_zero_or_one (y / 2 ^ r1) with h | h <;> rw [h] <;> rfl
  have hb1 : (if v then 1 else 0) < 2 := by split <;> omega
  have he2 := u64_and_nat (y / 2 ^ r1) 1 (by omega) (by omega)
  rw [nat_mask1, hbit] at he2
  have hpr : 2 ^ r2 ≤ 9223372036854775808 := show 2 ^ r2 ≤ 2 ^ 63 from Nat.pow_le_pow_right (by omega) (by omega)
  have hbp : (if v then 1 else 0) * 2 ^ r2 ≤ 9223372036854775808 := by
    cases v
    · rw [if_neg (by decide), Nat.zero_mul]; exact Nat.zero_le _
    · rw [if_pos rfl, Nat.one_mul]; exact hpr
  refine ⟨y / 2 ^ r1, if v then 1 else 0, (if v then 1 else 0) * 2 ^ r2, by rw [pow_int]; exact (Int.natCast_ediv _ _).symm, he2, ?_, ?_, hb1, by omega, by omega⟩
  · rw [pow_int, ← Int.natCast_mul]
    generalize (if v then 1 else 0) * 2 ^ r2 = bp at hbp
    exact IntWalk.u64_in _ (by omega)
  · generalize (if v then 1 else 0) * 2 ^ r2 = bp at hbp
    exact u64_or_nat x bp hx (by omega)
theorem dm64 (k : Nat) : (k : Int) / 64 = ((k / 64 : Nat) : Int) ∧ (k : Int) % 64 = ((k % 64 : Nat) : Int) ∧ k % 64 < 64 ∧ min (k % 64) 64 = k % 64 ∧ (0 : Int) ≤ ((k / 64 : Nat) : Int) := by
  refine ⟨by omega, by omega, by omega, by omega, by omega⟩
theorem ren1_any (i : Nat) (w : World) : Calls Try.prog 73 #[.int .i64 i] w fun e w' => e = .returned (.int .u64 ((0 : Nat) : Int)) ∧ w = w' := by
  go_enter Try.func73, Try.ntmps73
  go_wp2
  go_ret
  exact ⟨rfl, rfl⟩
set_option maxRecDepth 100000 in
set_option maxHeartbeats 16000000 in
theorem Renamed_any (Na : Int) (Aa : Option Addr) (Ca : Nat) (wsa : List Nat) (Ap : Option Addr) (Lp Cp : Nat) (p : List Int) (w : World) (h : TbOk w ⟨Na, Aa, Ca, wsa⟩) (hp : IL w Ap Lp p) (hLp : Lp ≤ 1000000000000000000) : Calls Try.prog 38 #[.agg #[.int .i64 Na, .slice Aa wsa.length Ca], .slice Ap Lp Cp] w (RetA w Na (tab Na.toNat (renF Na.toNat p wsa)) (rnE Na p wsa)) := by
  have H := Lib.hid h
  have HP := Lib.hid hp
  unfold rnE
  cases hfr : frm Na wsa with
  | false =>
    rw [if_neg (by decide)]
    unfold RetA
    rw [show ansN Na 5 = 0 from rfl, show ansL (tab Na.toNat (renF Na.toNat p wsa)) 5 = [] from rfl]
    have HFM := Lib.hid ((frm_one Na Aa Ca wsa).trans hfr)
    clear hfr hp h
    go_enter Try.func38, Try.ntmps38
    go_upto_region 1 with fail
    refine wp_world fun w1 hw1 => ?_
    have hs1 : Same w w1 := by rw [hw1]; exact ((Frm.refl _ _).alloc _).alloc _
    have hBXa : Blk w1 (w.heap.size) 24 #[.int .i64 Na, .slice Aa wsa.length Ca] := by
      rw [hw1]
      have := ((Blk.new w 24 #[.int .i64 Na, .slice Aa wsa.length Ca]).alloc (.cells #[.int .i64 0, .slice none 0 0] 24))
      simpa using this
    have hBR : Blk w1 (w.heap.size + 1) 24 #[.int .i64 0, .slice none 0 0] := by
      rw [hw1]
      have := (Blk.new (w.alloc (.cells #[.int .i64 Na, .slice Aa wsa.length Ca] 24)) 24 #[.int .i64 0, .slice none 0 0])
      simpa using this
    clear hw1
    obtain ⟨R, hR⟩ : ∃ b, w.heap.size + 1 = b := ⟨_, rfl⟩
    rw [hR] at hBR ⊢
    have leR : w.heap.size ≤ R := by omega
    have neXaR : w.heap.size ≠ R := by omega
    clear hR
    have cXa0 : w1.cell? ⟨w.heap.size, 0, none⟩ = some (.int .i64 Na) := hBXa.cell 0
    have cXa1 : w1.cell? ⟨w.heap.size, 1, none⟩ = some (.slice Aa wsa.length Ca) := hBXa.cell 1
    have lXa := hBXa.lt
    have fXa0 := hBXa.free 0
    have fXa1 := hBXa.free 1
    have HBXa := Lib.hid hBXa
    have cR0 : w1.cell? ⟨R, 0, none⟩ = some (.int .i64 0) := hBR.cell 0
    have cR1 : w1.cell? ⟨R, 1, none⟩ = some (.slice none 0 0) := hBR.cell 1
    have lR := hBR.lt
    have fR0 := hBR.free 0
    have fR1 := hBR.free 1
    have HBR := Lib.hid hBR
    have HS1 := Lib.hid hs1
    clear hs1 hBXa hBR
    have HOKa := Lib.hid (H.out.same HS1.out)
    go_wp2_with (fail)
    refine call_world fun w2 hw2 => ?_
    have hs2 : Same w1 w2 := by rw [hw2]; exact (Frm.refl _ _).alloc _
    have hBL : Blk w2 w1.heap.size 24 #[.int .i64 Na, .slice Aa wsa.length Ca] := by rw [hw2]; exact Blk.new _ _ _
    have htbs : Tbs w2 w1.heap.size [⟨Na, Aa, Ca, wsa⟩] := by
      intro i t hi
      match i, hi with
      | 0, hi =>
        simp only [List.getElem?_cons_zero, Option.some.injEq] at hi
        subst hi
        exact ⟨hBL.lt, hBL.cell 0, hBL.cell 1⟩
      | i + 1, hi => simp at hi
    have hfc := form_any w1.heap.size 1 1 [⟨Na, Aa, Ca, wsa⟩] w2 rfl (by decide) htbs (fun t ht => by
      simp only [List.mem_cons, List.not_mem_nil, or_false] at ht
      rcases ht with rfl
      · exact (HOKa.out).same hs2)
    rw [HFM.out] at hfc
    refine hfc.mono ?_
    clear hfc htbs hBL hw2
    rintro e w3 ⟨rfl, hs3⟩
    have hs13 : Same w1 w3 := hs2.trans hs3 (fun _ _ h => h)
    clear hs2 hs3
    replace HBXa := Lib.hid (HBXa.out.frm hs13 id)
    replace cXa0 : w3.cell? ⟨w.heap.size, 0, none⟩ = some (.int .i64 Na) := HBXa.out.cell 0
    replace cXa1 : w3.cell? ⟨w.heap.size, 1, none⟩ = some (.slice Aa wsa.length Ca) := HBXa.out.cell 1
    replace lXa := HBXa.out.lt
    replace fXa0 := HBXa.out.free 0
    replace fXa1 := HBXa.out.free 1
    replace HBR := Lib.hid (HBR.out.frm hs13 id)
    replace cR0 : w3.cell? ⟨R, 0, none⟩ = some (.int .i64 0) := HBR.out.cell 0
    replace cR1 : w3.cell? ⟨R, 1, none⟩ = some (.slice none 0 0) := HBR.out.cell 1
    replace lR := HBR.out.lt
    replace fR0 := HBR.out.free 0
    replace fR1 := HBR.out.free 1
    replace HS1 := Lib.hid (HS1.out.trans hs13 (fun _ _ h => h))
    clear hs13
    go_wp2
    refine wp_post fun we hwe => ?_
    have hBE : Blk we R 24 #[.int .i64 0, .slice none 0 0] := by
      rw [hwe]
      have := (HBR.out.set 0 (.int .i64 0)).set 1 (.slice none 0 0)
      simpa using this
    have hSE : Same w we := by rw [hwe]; exact (HS1.out.setNew 0 _ leR).setNew 1 _ leR
    have hr0 : we.cell? ⟨R, 0, none⟩ = some (.int .i64 0) := hBE.cell 0
    have hr1 : we.cell? ⟨R, 1, none⟩ = some (.slice none 0 0) := hBE.cell 1
    clear hwe hBE
    refine bodyPost_ret (v := .tuple #[.agg #[.int .i64 0, .slice none 0 0], .int .i64 5]) (by simp [results, Try.results38, go_sem, hr0, hr1]) rfl ?_
    exact ⟨none, 0, rfl, NewT.nil hSE⟩
  | true =>
    rw [if_pos rfl]
    obtain ⟨n, rfl, hform⟩ := frm_true hfr
    have HFM := Lib.hid ((frm_one n Aa Ca wsa).trans hfr)
    have hn := hform.n16
    rw [Int.toNat_natCast]
    have hpl := hp.len
    have hmk := fun w => run_make_n (P := Try.prog) Try.underlying26 info_bool .i64 .i64 n (show 1 * n ≤ 281474976710656 by omega) (show n ≤ 9223372036854775807 by omega) w
    obtain ⟨err, herr⟩ : ∃ e : Int, (if prmB n p = true then (0 : Int) else 4) = e := ⟨_, rfl⟩
    rw [herr]
    have HERR := Lib.hid herr
    have HPL := Lib.hid hpl
    have HFa := Lib.hid hform
    clear hfr hp h hpl herr hform
    unfold RetA
    go_enter Try.func38, Try.ntmps38
    go_upto_region 1 with fail
    refine wp_world fun w1 hw1 => ?_
    have hs1 : Same w w1 := by rw [hw1]; exact ((Frm.refl _ _).alloc _).alloc _
    have hBXa : Blk w1 (w.heap.size) 24 #[.int .i64 n, .slice Aa wsa.length Ca] := by
      rw [hw1]
      have := ((Blk.new w 24 #[.int .i64 n, .slice Aa wsa.length Ca]).alloc (.cells #[.int .i64 0, .slice none 0 0] 24))
      simpa using this
    have hBR : Blk w1 (w.heap.size + 1) 24 #[.int .i64 0, .slice none 0 0] := by
      rw [hw1]
      have := (Blk.new (w.alloc (.cells #[.int .i64 n, .slice Aa wsa.length Ca] 24)) 24 #[.int .i64 0, .slice none 0 0])
      simpa using this
    clear hw1
    obtain ⟨R, hR⟩ : ∃ b, w.heap.size + 1 = b := ⟨_, rfl⟩
    rw [hR] at hBR ⊢
    have leR : w.heap.size ≤ R := by omega
    have neXaR : w.heap.size ≠ R := by omega
    clear hR
    have cXa0 : w1.cell? ⟨w.heap.size, 0, none⟩ = some (.int .i64 n) := hBXa.cell 0
    have cXa1 : w1.cell? ⟨w.heap.size, 1, none⟩ = some (.slice Aa wsa.length Ca) := hBXa.cell 1
    have lXa := hBXa.lt
    have fXa0 := hBXa.free 0
    have fXa1 := hBXa.free 1
    have HBXa := Lib.hid hBXa
    have cR0 : w1.cell? ⟨R, 0, none⟩ = some (.int .i64 0) := hBR.cell 0
    have cR1 : w1.cell? ⟨R, 1, none⟩ = some (.slice none 0 0) := hBR.cell 1
    have lR := hBR.lt
    have fR0 := hBR.free 0
    have fR1 := hBR.free 1
    have HBR := Lib.hid hBR
    have HS1 := Lib.hid hs1
    clear hs1 hBXa hBR
    have HOKa := Lib.hid (H.out.same HS1.out)
    go_wp2_with (fail)
    refine call_world fun w2 hw2 => ?_
    have hs2 : Same w1 w2 := by rw [hw2]; exact (Frm.refl _ _).alloc _
    have hBL : Blk w2 w1.heap.size 24 #[.int .i64 n, .slice Aa wsa.length Ca] := by rw [hw2]; exact Blk.new _ _ _
    have htbs : Tbs w2 w1.heap.size [⟨n, Aa, Ca, wsa⟩] := by
      intro i t hi
      match i, hi with
      | 0, hi =>
        simp only [List.getElem?_cons_zero, Option.some.injEq] at hi
        subst hi
        exact ⟨hBL.lt, hBL.cell 0, hBL.cell 1⟩
      | i + 1, hi => simp at hi
    have hfc := form_any w1.heap.size 1 1 [⟨n, Aa, Ca, wsa⟩] w2 rfl (by decide) htbs (fun t ht => by
      simp only [List.mem_cons, List.not_mem_nil, or_false] at ht
      rcases ht with rfl
      · exact (HOKa.out).same hs2)
    rw [HFM.out] at hfc
    refine hfc.mono ?_
    clear hfc htbs hBL hw2
    rintro e w3 ⟨rfl, hs3⟩
    have hs13 : Same w1 w3 := hs2.trans hs3 (fun _ _ h => h)
    clear hs2 hs3
    replace HBXa := Lib.hid (HBXa.out.frm hs13 id)
    replace cXa0 : w3.cell? ⟨w.heap.size, 0, none⟩ = some (.int .i64 n) := HBXa.out.cell 0
    replace cXa1 : w3.cell? ⟨w.heap.size, 1, none⟩ = some (.slice Aa wsa.length Ca) := HBXa.out.cell 1
    replace lXa := HBXa.out.lt
    replace fXa0 := HBXa.out.free 0
    replace fXa1 := HBXa.out.free 1
    replace HBR := Lib.hid (HBR.out.frm hs13 id)
    replace cR0 : w3.cell? ⟨R, 0, none⟩ = some (.int .i64 0) := HBR.out.cell 0
    replace cR1 : w3.cell? ⟨R, 1, none⟩ = some (.slice none 0 0) := HBR.out.cell 1
    replace lR := HBR.out.lt
    replace fR0 := HBR.out.free 0
    replace fR1 := HBR.out.free 1
    replace HS1 := Lib.hid (HS1.out.trans hs13 (fun _ _ h => h))
    clear hs13
    go_upto_region 4 with fail
    refine wp_world fun w5 hw5 => ?_
    have hsv : Same w3 w5 := by rw [hw5]; exact (Frm.refl _ _).alloc _
    have hOD : OwnB w5 (some ⟨w3.heap.size, 0, none⟩) n n (seenL p 0 n) := by
      rw [seenL_zero, hw5]
      have := Own.ofMade (m := 1) w3 4 (fun b : Bool => [.bool b]) (fun _ => rfl) (by decide) false n (show n ≤ 9223372036854775807 by omega) rfl
      simpa using this
    clear hw5 hmk
    obtain ⟨D, hD⟩ : ∃ D, w3.heap.size = D := ⟨_, rfl⟩
    rw [hD] at hOD ⊢
    have hneXaD : w.heap.size ≠ D := by have := HBXa.out.lt; omega
    have hneRD : R ≠ D := by have := HBR.out.lt; omega
    have hDn : w.heap.size ≤ D := by have := HS1.out.size; omega
    have HOD := Lib.hid hOD
    clear hD hOD
    replace HBXa := Lib.hid (HBXa.out.frm hsv id)
    replace cXa0 : w5.cell? ⟨w.heap.size, 0, none⟩ = some (.int .i64 n) := HBXa.out.cell 0
    replace cXa1 : w5.cell? ⟨w.heap.size, 1, none⟩ = some (.slice Aa wsa.length Ca) := HBXa.out.cell 1
    replace lXa := HBXa.out.lt
    replace fXa0 := HBXa.out.free 0
    replace fXa1 := HBXa.out.free 1
    replace HBR := Lib.hid (HBR.out.frm hsv id)
    replace cR0 : w5.cell? ⟨R, 0, none⟩ = some (.int .i64 0) := HBR.out.cell 0
    replace cR1 : w5.cell? ⟨R, 1, none⟩ = some (.slice none 0 0) := HBR.out.cell 1
    replace lR := HBR.out.lt
    replace fR0 := HBR.out.free 0
    replace fR1 := HBR.out.free 1
    replace HS1 := Lib.hid (HS1.out.trans hsv (fun _ _ h => h))
    clear hsv
    go_wp2
    go_loopw [24] (fun i wr => ∃ k : Nat, k ≤ Lp ∧ i = .int .i64 k ∧ GoodN n p k ∧ Same w wr ∧ Blk wr w.heap.size 24 #[.int .i64 n, .slice Aa wsa.length Ca] ∧ Blk wr R 24 #[.int .i64 0, .slice none 0 0] ∧ OwnB wr (some ⟨D, 0, none⟩) n n (seenL p k n)) (fun i _ => Lp - (intOf i).toNat)
    case atStart => exact ⟨0, by omega, rfl, ⟨by simp, by simp⟩, HS1.out, HBXa.out, HBR.out, HOD.out⟩
    case round =>
      obtain ⟨k, hk, rfl, hg, hs, hBXa, hBR, hOD⟩ := hrel
      replace HS1 := Lib.hid hs
      replace HBXa := Lib.hid hBXa
      replace HBR := Lib.hid hBR
      replace HOD := Lib.hid hOD
      have HG := Lib.hid hg
      clear cXa0 cXa1 fXa0 fXa1 lXa cR0 cR1 fR0 fR1 lR hs hBXa hBR hOD hg
      have cXa0 : wr.cell? ⟨w.heap.size, 0, none⟩ = some (.int .i64 n) := HBXa.out.cell 0
      have cXa1 : wr.cell? ⟨w.heap.size, 1, none⟩ = some (.slice Aa wsa.length Ca) := HBXa.out.cell 1
      have lXa := HBXa.out.lt
      have cR0 : wr.cell? ⟨R, 0, none⟩ = some (.int .i64 0) := HBR.out.cell 0
      have cR1 : wr.cell? ⟨R, 1, none⟩ = some (.slice none 0 0) := HBR.out.cell 1
      have lR := HBR.out.lt
      have fR0 := HBR.out.free 0
      have fR1 := HBR.out.free 1
      by_cases hlt : k < Lp
      · obtain ⟨x, hx⟩ : ∃ x, p[k]? = some x := ⟨_, List.getElem?_eq_getElem (by rw [← HPL.out]; exact hlt)⟩
        obtain ⟨bp, op, hA, hb, hc⟩ := (Sl.same HP.out HS1.out).at1 hx
        subst hA
        have hk0 : (0 : Int) ≤ k := by omega
        have hk1 : (k : Int) < Lp := by omega
        have HX := Lib.hid hx
        clear hx
        by_cases h0 : x < 0
        · have he : err = 4 := by rw [← HERR.out, prmB_range HX.out (.inl h0), if_neg (by decide)]
          subst he
          go_wp2
          refine wp_post fun we hwe => ?_
          have hBE : Blk we R 24 #[.int .i64 0, .slice none 0 0] := by
            rw [hwe]
            have := (HBR.out.set 0 (.int .i64 0)).set 1 (.slice none 0 0)
            simpa using this
          have hSE : Same w we := by rw [hwe]; exact (HS1.out.setNew 0 _ leR).setNew 1 _ leR
          have hr0 : we.cell? ⟨R, 0, none⟩ = some (.int .i64 0) := hBE.cell 0
          have hr1 : we.cell? ⟨R, 1, none⟩ = some (.slice none 0 0) := hBE.cell 1
          clear hwe hBE
          refine bodyPost_ret (v := .tuple #[.agg #[.int .i64 0, .slice none 0 0], .int .i64 4]) (by simp [results, Try.results38, go_sem, hr0, hr1]) rfl ?_
          exact ⟨none, 0, rfl, NewT.nil hSE⟩
        by_cases h1 : x ≥ n
        · have he : err = 4 := by rw [← HERR.out, prmB_range HX.out (.inr h1), if_neg (by decide)]
          subst he
          go_wp2
          refine wp_post fun we hwe => ?_
          have hBE : Blk we R 24 #[.int .i64 0, .slice none 0 0] := by
            rw [hwe]
            have := (HBR.out.set 0 (.int .i64 0)).set 1 (.slice none 0 0)
            simpa using this
          have hSE : Same w we := by rw [hwe]; exact (HS1.out.setNew 0 _ leR).setNew 1 _ leR
          have hr0 : we.cell? ⟨R, 0, none⟩ = some (.int .i64 0) := hBE.cell 0
          have hr1 : we.cell? ⟨R, 1, none⟩ = some (.slice none 0 0) := hBE.cell 1
          clear hwe hBE
          refine bodyPost_ret (v := .tuple #[.agg #[.int .i64 0, .slice none 0 0], .int .i64 4]) (by simp [results, Try.results38, go_sem, hr0, hr1]) rfl ?_
          exact ⟨none, 0, rfl, NewT.nil hSE⟩
        obtain ⟨y, rfl⟩ := Int.eq_ofNat_of_zero_le (show 0 ≤ x by omega)
        have hyl : y < n := by omega
        have hyl2 : (y : Int) < n := by omega
        have hy3 : ¬ n ≤ y := by omega
        have hgt := seenL_get p k hyl
        obtain ⟨sb, hsb, hsl, hsc⟩ := Own.at1 (c := fun b : Bool => .bool b) HOD.out hgt
        injection hsb with hsb
        injection hsb with hsb
        subst hsb
        have hfr := Own.free HOD.out y
        clear hgt
        by_cases hd : (y : Int) ∈ p.take k
        · have hd' : decide ((y : Int) ∈ p.take k) = true := by simpa using hd
          rw [hd'] at hsc
          have he : err = 4 := by rw [← HERR.out, prmB_dup HX.out hd, if_neg (by decide)]
          subst he
          clear hd hd'
          go_wp2
          refine wp_post fun we hwe => ?_
          have hBE : Blk we R 24 #[.int .i64 0, .slice none 0 0] := by
            rw [hwe]
            have := (HBR.out.set 0 (.int .i64 0)).set 1 (.slice none 0 0)
            simpa using this
          have hSE : Same w we := by rw [hwe]; exact (HS1.out.setNew 0 _ leR).setNew 1 _ leR
          have hr0 : we.cell? ⟨R, 0, none⟩ = some (.int .i64 0) := hBE.cell 0
          have hr1 : we.cell? ⟨R, 1, none⟩ = some (.slice none 0 0) := hBE.cell 1
          clear hwe hBE
          refine bodyPost_ret (v := .tuple #[.agg #[.int .i64 0, .slice none 0 0], .int .i64 4]) (by simp [results, Try.results38, go_sem, hr0, hr1]) rfl ?_
          exact ⟨none, 0, rfl, NewT.nil hSE⟩
        · have hd' : decide ((y : Int) ∈ p.take k) = false := by simpa using hd
          rw [hd'] at hsc
          have HD := Lib.hid hd
          clear hd hd'
          have hst := Own.put1 (c := fun b : Bool => .bool b) HOD.out (i := y) (by rw [seenL_len]; exact hyl) true
          rw [seenL_set HX.out hyl] at hst
          have HST := Lib.hid hst
          clear hst
          go_wp2
          go_roundw
          case rel => exact ⟨k + 1, by omega, by go_num, HG.out.next HX.out (by omega) (by omega) HD.out, HS1.out.setNew y _ hDn, HBXa.out.far (p := ⟨D, y, none⟩) hneXaD _, HBR.out.far (p := ⟨D, y, none⟩) hneRD _, HST.out⟩
          case measure => simp [intOf]; omega
      · obtain rfl : k = Lp := by omega
        by_cases hln : k ≠ n
        · have he : err = 4 := by rw [← HERR.out, prmB_len (by rw [← HPL.out]; exact hln), if_neg (by decide)]
          subst he
          have hln2 : (k : Int) ≠ n := by omega
          go_wp2
          refine wp_post fun we hwe => ?_
          have hBE : Blk we R 24 #[.int .i64 0, .slice none 0 0] := by
            rw [hwe]
            have := (HBR.out.set 0 (.int .i64 0)).set 1 (.slice none 0 0)
            simpa using this
          have hSE : Same w we := by rw [hwe]; exact (HS1.out.setNew 0 _ leR).setNew 1 _ leR
          have hr0 : we.cell? ⟨R, 0, none⟩ = some (.int .i64 0) := hBE.cell 0
          have hr1 : we.cell? ⟨R, 1, none⟩ = some (.slice none 0 0) := hBE.cell 1
          clear hwe hBE
          refine bodyPost_ret (v := .tuple #[.agg #[.int .i64 0, .slice none 0 0], .int .i64 4]) (by simp [results, Try.results38, go_sem, hr0, hr1]) rfl ?_
          exact ⟨none, 0, rfl, NewT.nil hSE⟩
        obtain rfl : n = k := by omega
        have hPN : PermN n p := prmB_good (by rw [← HPL.out]; exact HG.out) HPL.out.symm
        have he : err = 0 := by rw [← HERR.out, prmB_true.2 hPN, if_pos rfl]
        subst he
        rw [show ansN n 0 = n from rfl, show ansL (tab n (renF n p wsa)) 0 = tab n (renF n p wsa) from rfl]
        have hsgl := fun (j k : Nat) (h : k ≤ n) => sg_lt hPN j k h
        have hsgo := fun (j k : Nat) (h : k < n) => sg_or hPN j h
        have hpvl := fun (v : Nat) (h : v < n) => hPN.lt h
        have hp0 : ∀ x ∈ p, 0 ≤ x := fun x hx => (hPN.perm.1 x hx).1
        have hset := fun (k : Nat) (h : k < 2 ^ n) => ren_word (ws := wsa) hPN h
        have hfull : tab n (renP n p wsa (2 ^ n)) = tab n (renF n p wsa) := tab_congr fun i _ => renP_full i
        have hdl : ∀ i, i < 2 ^ n → i / 64 < nw n := fun i hi => div_lt_nw hi
        have hdl2 : ∀ i, i < 2 ^ n → ∃ x, wsa[i / 64]? = some x := fun i hi => ⟨_, List.getElem?_eq_getElem (by rw [HFa.out.len]; exact div_lt_nw hi)⟩
        have hsw := pow_lt_shift hn
        have hsw2 := pow_lt_shift2 hn
        have hp16 := pow_le16 hn
        have hn0 : (0 : Int) ≤ n := by omega
        have hmn : min n 64 = n := by omega
        have hen : ∀ (args : Array Value) (w : World), (callFunc 73 args).run Try.prog w = .ok (.enter 73 args) w := enters_of Try.func73 (by kernel_rfl) rfl
        have HEN := Lib.hid hen
        have htl : Tells wr n 73 #[] (fun _ => 0) := fun i hi => ⟨by show (0 : Nat) < 18446744073709551616; omega, fun w' hs' => by
          refine (ren1_any i w').mono ?_
          rintro e w'' ⟨rfl, rfl⟩
          exact ⟨rfl, Frm.refl _ _⟩⟩
        have HTL := Lib.hid htl
        have hmf : ∀ (fn : Fn) (first cap : Array Value) (w : World), (Instr.makeFunc fn first cap).run Try.prog w = .ok (.func fn first cap) w := fun _ _ _ _ => rfl
        obtain ⟨M, hM⟩ : ∃ M, 2 ^ n = M := ⟨_, rfl⟩
        rw [hM] at hsgl hset hfull hdl hdl2 hsw hsw2 hp16
        have HSG := Lib.hid hsgl
        have HSO := Lib.hid hsgo
        have HPV := Lib.hid hpvl
        have HP0 := Lib.hid hp0
        have HSET := Lib.hid hset
        have HFULL := Lib.hid hfull
        have HDL := Lib.hid hdl
        have HDL2 := Lib.hid hdl2
        clear hsgl hsgo hpvl hp0 hset hfull hdl hdl2 hen htl hM hPN
        go_wp2_with (fail)
        refine (laid_any n 73 #[] (fun _ => 0) wr hn HEN.out HTL.out).mono ?_
        rintro e w6 ⟨Aq, Cq, rfl, hNT⟩
        rw [ren_zero n p wsa] at hNT ⊢
        obtain ⟨sb, rfl, hsbl⟩ := Own.form1 hNT.1 (by rw [tab_len]; exact nw_pos n)
        have hsbn : wr.heap.size ≤ sb := hNT.2.1 sb ⟨_, rfl, rfl⟩
        have hOT := hNT.1
        have hsv := hNT.2.2
        rw [tab_len] at hOT ⊢
        obtain ⟨K, hK⟩ : ∃ K, nw n = K := ⟨_, rfl⟩
        rw [hK] at hOT HDL ⊢
        have hneXs : w.heap.size ≠ sb := by omega
        have hneRs : R ≠ sb := by omega
        have hsbW : w.heap.size ≤ sb := by omega
        have HOT := Lib.hid hOT
        have hKl : (ansL (tab n (renF n p wsa)) 0).length = K := by rw [show ansL (tab n (renF n p wsa)) 0 = tab n (renF n p wsa) from rfl, tab_len, hK]
        have HKL := Lib.hid hKl
        have hKn := fun k => (tab_len n (renP n p wsa k)).trans hK
        have HKN := Lib.hid hKn
        clear hNT hOT hK hKl hKn hneXaD hneRD hDn HOD
        replace HBXa := Lib.hid (HBXa.out.frm hsv id)
        replace HBR := Lib.hid (HBR.out.frm hsv id)
        replace HS1 := Lib.hid (HS1.out.trans hsv (fun _ _ h => h))
        clear cXa0 cXa1 lXa cR0 cR1 lR fR0 fR1
        have cXa0 : w6.cell? ⟨w.heap.size, 0, none⟩ = some (.int .i64 n) := HBXa.out.cell 0
        have cXa1 : w6.cell? ⟨w.heap.size, 1, none⟩ = some (.slice Aa wsa.length Ca) := HBXa.out.cell 1
        have lXa := HBXa.out.lt
        have cR0 : w6.cell? ⟨R, 0, none⟩ = some (.int .i64 0) := HBR.out.cell 0
        have cR1 : w6.cell? ⟨R, 1, none⟩ = some (.slice none 0 0) := HBR.out.cell 1
        have lR := HBR.out.lt
        have fR0 := HBR.out.free 0
        have fR1 := HBR.out.free 1
        go_upto_region 14 with fail
        refine wp_world fun w7 hw7 => ?_
        have hsv : Same w6 w7 := by rw [hw7]; exact (Frm.refl _ _).alloc _
        have hBT : Blk w7 w6.heap.size 24 #[.int .i64 n, .slice (some ⟨sb, 0, none⟩) K Cq] := by rw [hw7]; exact Blk.new _ _ _
        clear hw7
        replace HBXa := Lib.hid (HBXa.out.frm hsv id)
        replace HBR := Lib.hid (HBR.out.frm hsv id)
        replace HS1 := Lib.hid (HS1.out.trans hsv (fun _ _ h => h))
        replace HOT := Lib.hid (Own.frm HOT.out hsv (fun _ _ => id))
        obtain ⟨T, hT⟩ : ∃ b, w6.heap.size = b := ⟨_, rfl⟩
        rw [hT] at hBT ⊢
        have hneTs : T ≠ sb := by omega
        have HBT := Lib.hid hBT
        clear hT hBT hsv hsbl cXa0 cXa1 lXa cR0 cR1 lR fR0 fR1
        have cXa0 : w7.cell? ⟨w.heap.size, 0, none⟩ = some (.int .i64 n) := HBXa.out.cell 0
        have cXa1 : w7.cell? ⟨w.heap.size, 1, none⟩ = some (.slice Aa wsa.length Ca) := HBXa.out.cell 1
        have lXa := HBXa.out.lt
        have cR0 : w7.cell? ⟨R, 0, none⟩ = some (.int .i64 0) := HBR.out.cell 0
        have cR1 : w7.cell? ⟨R, 1, none⟩ = some (.slice none 0 0) := HBR.out.cell 1
        have lR := HBR.out.lt
        have fR0 := HBR.out.free 0
        have fR1 := HBR.out.free 1
        go_wp2
        go_loopw [59] (fun i wr => ∃ k : Nat, k ≤ M ∧ i = .int .i64 k ∧ Same w wr ∧ Blk wr w.heap.size 24 #[.int .i64 n, .slice Aa wsa.length Ca] ∧ Blk wr R 24 #[.int .i64 0, .slice none 0 0] ∧ Blk wr T 24 #[.int .i64 n, .slice (some ⟨sb, 0, none⟩) K Cq] ∧ OwnW wr (some ⟨sb, 0, none⟩) K Cq (tab n (renP n p wsa k))) (fun i _ => M - (intOf i).toNat)
        case atStart => exact ⟨0, by omega, rfl, HS1.out, HBXa.out, HBR.out, HBT.out, HOT.out⟩
        case round =>
          obtain ⟨k, hk, rfl, hs, hBXa, hBR, hBT, hOT⟩ := hrel
          replace HS1 := Lib.hid hs
          replace HBXa := Lib.hid hBXa
          replace HBR := Lib.hid hBR
          replace HBT := Lib.hid hBT
          replace HOT := Lib.hid hOT
          clear cXa0 cXa1 lXa cR0 cR1 lR fR0 fR1 hs hBXa hBR hBT hOT
          by_cases hltM : k < M
          · have hk0 : (0 : Int) ≤ k := by omega
            have hk1 : (k : Int) < M := by omega
            go_wp2
            refine wp_world fun wq hwq => ?_
            subst hwq
            go_loopw [11, 64] (fun s i wi => ∃ m : Nat, m ≤ n ∧ i = .int .i64 m ∧ s = .int .i64 (sg p k m : Nat) ∧ wq = wi) (fun _ i _ => n - (intOf i).toNat)
            case atStart => exact ⟨0, by omega, rfl, rfl, rfl⟩
            case round =>
              obtain ⟨m, hm, rfl, rfl, rfl⟩ := hrel
              have hsl := HSG.out k m (by omega)
              by_cases hlm : m < n
              · obtain ⟨x, hx⟩ : ∃ x, p[m]? = some x := ⟨_, List.getElem?_eq_getElem (by rw [← HPL.out]; exact hlm)⟩
                obtain ⟨bp, op, hA, hb, hc⟩ := (Sl.same HP.out HS1.out).at1 hx
                have hpv := HPV.out m hlm
                have hx0 := HP0.out x (List.mem_of_getElem? hx)
                have hor := HSO.out k m hlm
                rw [pv_get hx] at hpv hor
                obtain ⟨u, rfl⟩ := Int.eq_ofNat_of_zero_le hx0
                rw [Int.toNat_natCast] at hpv hor
                subst hA
                have hm0 : (0 : Int) ≤ m := by omega
                have hm1 : (m : Int) < n := by omega
                obtain ⟨q, b, c, hd1, hd2, hd3, hd5, hd4, hc16, hb2, hq16, hd6⟩ := step_i (k := k) (m := m) (u := u) (by omega) (by omega) (by omega) hor
                have hu0 : (0 : Int) ≤ u := by omega
                have hmu : min u 64 = u := by omega
                have hmm : min m 64 = m := by omega
                clear hor hx
                go_wp2
                go_roundw
                case rel => exact ⟨m + 1, by omega, by go_num, rfl, trivial⟩
                case measure => simp [intOf]; omega
              · have hmn : m = n := by omega
                subst hmn
                obtain ⟨y, hy⟩ := HDL2.out k hltM
                have hyl := H.out.small.at1 hy
                have hkl : k / 64 < wsa.length := lt_get hy
                have hvb : vb wsa k = y.testBit (k % 64) := by unfold vb; rw [List.getD_eq_getElem?_getD, hy]; rfl
                obtain ⟨ba, offa, hAa, hbla, hca⟩ := WL.at1 (Sl.same H.out.wl HS1.out) hy
                simp only at hAa
                subst hAa
                have hset := HSET.out k hltM
                have hdk := HDL.out (sg p k m) hsl
                have hget : (tab m (renP m p wsa k))[sg p k m / 64]? = some (word m (renP m p wsa k) (sg p k m / 64)) := tab_get (by have := HKN.out k; rw [tab_len] at this; rw [this]; exact hdk)
                have hwl := word_lt m (renP m p wsa k) (sg p k m / 64)
                obtain ⟨sb', hsb', hsl2, hsc⟩ := HOT.out.at1 (c := fun x : Nat => .int .u64 (x : Int)) hget
                injection hsb' with hsb'
                injection hsb' with hsb'
                subst hsb'
                have hst := fun (w' : World) (hs' : Same wq w') => Own.put1 (c := fun x : Nat => .int .u64 (x : Int)) (Own.frm HOT.out hs' (fun _ _ => id)) (i := sg p k m / 64) (by rw [HKN.out]; exact hdk) (word m (renP m p wsa k) (sg p k m / 64) ||| (if vb wsa k then 1 else 0) * 2 ^ (sg p k m % 64))
                rw [hset] at hst
                obtain ⟨hn1, hn2, hr1, hm1, hq2⟩ := dm64 k
                obtain ⟨hn3, hn4, hr2, hm2, hq4⟩ := dm64 (sg p k m)
                have hq1 : ((k / 64 : Nat) : Int) < wsa.length := Int.ofNat_lt.2 hkl
                have hq3 : ((sg p k m / 64 : Nat) : Int) < K := Int.ofNat_lt.2 hdk
                have hcT : _ = some (Value.slice (some ⟨sb, 0, none⟩) K Cq) := HBT.out.cell 1
                have hlT := HBT.out.lt
                have hcX : _ = some (Value.slice (some ⟨ba, offa, none⟩) wsa.length Ca) := HBXa.out.cell 1
                have hlX := HBXa.out.lt
                obtain ⟨z, b, bp, he1, he2, he3, he4, hb1, hz64, hbp64⟩ := step_w (x := word m (renP m p wsa k) (sg p k m / 64)) (y := y) (r1 := k % 64) (r2 := sg p k m % 64) (v := vb wsa k) hwl hyl hr2 hvb
                have hHST := Lib.hid hst
                clear hst hset hget hy hvb
                generalize word m (renP m p wsa k) (sg p k m / 64) ||| (if vb wsa k then 1 else 0) * 2 ^ (sg p k m % 64) = nx at *
                generalize word m (renP m p wsa k) (sg p k m / 64) = x at *
                generalize sg p k m % 64 = r2 at *
                generalize sg p k m / 64 = q2 at *
                generalize sg p k m = sk at *
                generalize k % 64 = r1 at *
                generalize k / 64 = q1 at *
                go_upto_region 23 with fail
                refine wp_quiet_tail 21 (by kernel_rfl) (by kernel_rfl) ?_
                simp only [List.take_succ_cons, List.take_zero, List.drop_succ_cons, List.drop_zero]
                repeat (any_goals (first | go_big_quiet_step (fail) | quiet_step (fail)))
                refine wpQuiet_nil ?_
                rintro wz ⟨q, hq⟩
                have hsz : Same wq wz := by rw [hq]; exact more_same _ q
                have hfz := Own.free (Own.frm HOT.out hsz (fun _ _ => id)) q2
                have hcz := (hsz.cell (p := ⟨sb, q2, none⟩) hsl2 id).trans hsc
                have HSZ := Lib.hid ((HS1.out.trans hsz (fun _ _ h => h)).setNew (g := sb) q2 (.int .u64 (nx : Int)) hsbW)
                have HBXz := Lib.hid ((HBXa.out.frm hsz id).far (p := ⟨sb, q2, none⟩) hneXs (.int .u64 (nx : Int)))
                have HBRz := Lib.hid ((HBR.out.frm hsz id).far (p := ⟨sb, q2, none⟩) hneRs (.int .u64 (nx : Int)))
                have HBTz := Lib.hid ((HBT.out.frm hsz id).far (p := ⟨sb, q2, none⟩) hneTs (.int .u64 (nx : Int)))
                have HOZ := Lib.hid (hHST.out wz hsz)
                have hsbz : sb < wz.heap.size := Nat.lt_of_lt_of_le hsl2 hsz.size
                clear hq hsz hsc hsl2 hcT hlT hcX hlX hca hbla hn1 hn2 hn3 hn4 he1 he2 he3 he4 hm1 hm2
                go_wp2
                go_roundw
                case rel => exact ⟨k + 1, hltM, by go_num, HSZ.out, HBXz.out, HBRz.out, HBTz.out, HOZ.out⟩
                case measure => simp [intOf]; omega
          · obtain rfl : k = M := by omega
            rw [HFULL.out] at HOT
            have cT0 : _ = some (Value.int .i64 n) := HBT.out.cell 0
            have cT1 : _ = some (Value.slice (some ⟨sb, 0, none⟩) K Cq) := HBT.out.cell 1
            have lT := HBT.out.lt
            have cR0 : wr.cell? ⟨R, 0, none⟩ = some (.int .i64 0) := HBR.out.cell 0
            have cR1 : wr.cell? ⟨R, 1, none⟩ = some (.slice none 0 0) := HBR.out.cell 1
            have lR := HBR.out.lt
            have fR0 := HBR.out.free 0
            have fR1 := HBR.out.free 1
            go_wp2
            refine wp_post fun we hwe => ?_
            have hBE : Blk we R 24 #[.int .i64 n, .slice (some ⟨sb, 0, none⟩) K Cq] := by
              rw [hwe]
              have := (HBR.out.set 0 (.int .i64 n)).set 1 (.slice (some ⟨sb, 0, none⟩) K Cq)
              simpa using this
            have hSE : Same w we := by rw [hwe]; exact (HS1.out.setNew 0 _ leR).setNew 1 _ leR
            have hOE : OwnW we (some ⟨sb, 0, none⟩) K Cq (tab n (renF n p wsa)) := by
              rw [hwe]
              exact (Own.far (p := ⟨R, 0, none⟩) HOT.out (fun a ha h => by injection ha with ha; subst ha; exact hneRs h.symm) _).far (p := ⟨R, 1, none⟩) (fun a ha h => by injection ha with ha; subst ha; exact hneRs h.symm) _
            have hr0 : we.cell? ⟨R, 0, none⟩ = some (.int .i64 n) := hBE.cell 0
            have hr1 : we.cell? ⟨R, 1, none⟩ = some (.slice (some ⟨sb, 0, none⟩) K Cq) := hBE.cell 1
            clear hwe hBE
            refine bodyPost_ret (v := .tuple #[.agg #[.int .i64 n, .slice (some ⟨sb, 0, none⟩) K Cq], .int .i64 0]) (by simp [results, Try.results38, go_sem, hr0, hr1]) rfl ?_
            refine ⟨some ⟨sb, 0, none⟩, Cq, by rw [HKL.out]; rfl, ?_, fresh_some hsbW, hSE⟩
            rw [HKL.out]
            exact hOE
end Go.Proofs.Ytlggmoghgoeiiaa

/- Truth tables: TruthRenames: the walk. -/
namespace Go.Proofs.Ytlggmoghgoeiiaa
open Go.RowKit Go.Tk

theorem info_int : (Try.prog.info? 3).map (fun i => (i.zero, i.size, i.bytes)) = some (some (.int .i64 0), 1, 8) := by kernel_rfl
theorem i_flat : ∀ xs : List Int, xs.flatMap icell = xs.map fun x : Int => Value.int .i64 x
  | [] => rfl
  | x :: xs => by rw [List.flatMap_cons, List.map_cons, i_flat xs]; rfl
theorem il_src {w : World} {A : Option Addr} {n : Nat} {xs : List Int} (h : IL w A n xs) (hne : xs ≠ []) : ∃ ad, A = some ad ∧ ∀ j u, (xs.flatMap icell)[j]? = some u → w.cell? (ad.add j) = some u := by
  obtain ⟨b, off, rfl, _, _⟩ := h.at1 (List.getElem?_eq_getElem (List.length_pos_iff.2 hne))
  refine ⟨_, rfl, fun j u hj => ?_⟩
  rw [i_flat, List.getElem?_map] at hj
  obtain ⟨x', hx', rfl⟩ := Option.map_eq_some_iff.1 hj
  obtain ⟨b2, off2, hA, _, hc⟩ := h.at1 hx'
  injection hA with hA
  injection hA with h1 h2
  subst h1 h2
  by_cases hj0 : j = 0
  · subst hj0; simpa [Addr.add] using hc
  · simpa [Addr.add, hj0] using hc
theorem rnE_len {N : Int} {p : List Int} {ws : List Nat} {G : Nat → Bool} : (ansL (tab N.toNat G) (rnE N p ws)).length ≤ 1000000000000000000 := by
  unfold ansL
  split
  · rename_i h
    unfold rnE at h
    cases hf : frm N ws with
    | false => rw [hf, if_neg (by decide)] at h; cases h
    | true => exact tab_len_le (frm_16 hf)
  · simp
set_option maxRecDepth 100000 in
set_option maxHeartbeats 8000000 in
theorem renames_walk (Na : Int) (Aa : Option Addr) (Ca : Nat) (wsa : List Nat) (Ap : Option Addr) (Lp Cp : Nat) (p : List Int) (w : World) (h : TbIn w ⟨Na, Aa, Ca, wsa⟩) (hp : IL w Ap Lp p) (hr : Lp * 8 ≤ 140737488351232) : Calls Try.prog 8 #[.agg #[.int .i64 Na, .slice Aa wsa.length Ca], .slice Ap Lp Cp] w fun e w' => e = .returned (.bool true) ∧ Below w.heap.size w w' := by
  obtain rfl := hp.len
  have H := Lib.hid h
  have hroom := h.room
  simp only at hroom
  have HI := Lib.hid hp
  have hP := fun A C A2 C2 w h hi => Renamed_any Na A C wsa A2 p.length C2 p w h hi (by omega)
  have hD := fun A C w h hi => docRenamed_any Na A C wsa Ap p.length Cp p w h hi (by omega)
  have hrl := rnE_len (N := Na) (p := p) (ws := wsa) (G := renF Na.toNat p wsa)
  unfold RetA at hP hD
  generalize ansN Na (rnE Na p wsa) = rn at hP hD
  generalize ansL (tab Na.toNat (renF Na.toNat p wsa)) (rnE Na p wsa) = rws at hP hD hrl
  generalize rnE Na p wsa = re at hP hD
  have HP := Lib.hid hP
  have HD := Lib.hid hD
  clear hP hD h hp
  go_enter Try.func8, Try.ntmps8
  go_upto_region 1 with fail
  refine wp_world fun w1 hw1 => ?_
  have hs1 : Same w w1 := by rw [hw1]; exact (Frm.refl _ _).alloc _
  have hBXa : Blk w1 (w.heap.size) 24 #[.int .i64 Na, .slice Aa wsa.length Ca] := by
    rw [hw1]
    have := (Blk.new w 24 #[.int .i64 Na, .slice Aa wsa.length Ca])
    simpa using this
  clear hw1
  have cXa0 : w1.cell? ⟨w.heap.size, 0, none⟩ = some (.int .i64 Na) := hBXa.cell 0
  have cXa1 : w1.cell? ⟨w.heap.size, 1, none⟩ = some (.slice Aa wsa.length Ca) := hBXa.cell 1
  have lXa := hBXa.lt
  have fXa0 := hBXa.free 0
  have fXa1 := hBXa.free 1
  have HBXa := Lib.hid hBXa
  have HS1 := Lib.hid hs1
  clear hs1 hBXa
  go_wp2_with (fail)
  refine (awake_any w1).mono ?_
  rintro e wr ⟨rfl, hs⟩
  replace HBXa := Lib.hid (HBXa.out.frm hs id)
  replace HS1 := Lib.hid (HS1.out.trans hs (fun _ _ h => h))
  clear hs cXa0 cXa1 fXa0 fXa1 lXa
  have cX0 : wr.cell? ⟨w.heap.size, 0, none⟩ = some (.int .i64 Na) := HBXa.out.cell 0
  have cX1 : wr.cell? ⟨w.heap.size, 1, none⟩ = some (.slice Aa wsa.length Ca) := HBXa.out.cell 1
  have lX := HBXa.out.lt
  go_upto_region 3 with fail
  refine wp_region_lit ?_
  refine wpList_read 1 ?_
  simp only [List.take_succ_cons, List.take_zero, List.drop_succ_cons, List.drop_zero]
  repeat (any_goals (first | go_big_quiet_step (fail) | quiet_step (fail)))
  refine wpQuiet_nil ?_
  refine wpList_plain rfl fun K hK => ?_
  go_simp
  refine (rtwin_any Na Aa Ca wsa wr (Sl.same H.out.ok.wl HS1.out) hroom).mono ?_
  rintro e wb ⟨At, Ct, rfl, hNT⟩
  have hs : Same wr wb := hNT.2.2
  have hot := hNT.1
  clear hNT cX0 cX1 lX
  refine hK _ _ ?_
  clear hK K
  refine wpList_plain rfl fun K hK => ?_
  go_simp
  refine hK _ _ ?_
  clear hK K
  refine list_world fun wc hwc => ?_
  have hsc : Same wb wc := by rw [hwc]; exact (Frm.refl _ _).alloc _
  have hO := Own.lit wb 3 icell (fun _ => rfl) [] (by simp) (cs := #[]) rfl
  rw [← hwc] at hO
  clear hwc
  have hotl := hot.block
  have hot := Own.frm hot hsc (fun _ _ => id)
  have hF0 : Fresh wr.heap.size (some ⟨wb.heap.size, 0, none⟩) := fresh_some hs.size
  have hs := hs.trans hsc (fun _ _ h => h)
  generalize wb.heap.size = L0 at *
  have hotb : ∀ a, At = some a → ¬ a.block = L0 := fun a ha h => by have := hotl a ha; omega
  refine wpList_read 1 ?_
  simp only [List.take_succ_cons, List.take_zero, List.drop_succ_cons, List.drop_zero]
  repeat (any_goals (first | go_big_quiet_step (fail) | quiet_step (fail)))
  refine wpQuiet_nil ?_
  refine wpList_plain rfl fun K hK => ?_
  refine Own.append_many (.tmp 14) (.tmp 15) _ rfl Try.underlying59 info_int rfl (by omega) rfl hO (fun _ => rfl) p Ap Cp rfl (fun hne => il_src (Sl.same HI.out (HS1.out.trans hs (fun _ _ h => h))) hne) (by simp [icell, Value.oneCell']) (by simp [maxLen]; omega) (by simp; omega) ?_
  intro Aq Cq wd hOq hg1 hat1
  refine hK _ _ ?_
  clear hK K
  simp only [List.nil_append] at hOq ⊢
  have hs : Same wr wd := hs.grown hg1 (fun g hg => .inr (hF0 g (ownBlock_row.1 hg)))
  have hot := Own.frm hot ((Frm.refl (fun b => b = L0) wc).grown hg1 (fun g hg => .inl (by obtain ⟨a, ha, rfl⟩ := ownBlock_row.1 hg; injection ha with ha; subst ha; rfl))) hotb
  have HQ := Lib.hid (Own.il hOq)
  clear hg1 hat1 hF0 hotb hOq hO hsc
  refine wpList_plain rfl fun K hK => ?_
  go_simp
  refine (HP.out At Ct Aq Cq wd ⟨hot.sl ucell_len, H.out.ok.small⟩ HQ.out).mono ?_
  rintro e we ⟨Au, Cu, rfl, hNT⟩
  refine hK _ _ ?_
  clear hK K
  have hs := hs.trans hNT.2.2 (fun _ _ h => h)
  have hop := hNT.1
  clear hNT hot
  have cX0 : we.cell? ⟨w.heap.size, 0, none⟩ = some (.int .i64 Na) := (HBXa.out.frm hs id).cell 0
  have cX1 : we.cell? ⟨w.heap.size, 1, none⟩ = some (.slice Aa wsa.length Ca) := (HBXa.out.frm hs id).cell 1
  have lX := (HBXa.out.frm hs id).lt
  go_wp2_with (fail)
  refine call_world fun wf hwf => ?_
  have hsv : Same we wf := by rw [hwf]; exact (Frm.refl _ _).alloc _
  have hop := Own.frm hop hsv (fun _ _ => id)
  have hs := hs.trans hsv (fun _ _ h => h)
  have hBp : Blk wf we.heap.size 24 #[.int .i64 rn, .slice Au rws.length Cu] := by rw [hwf]; exact Blk.new _ _ _
  clear hwf hsv cX0 cX1 lX
  generalize we.heap.size = Tp at *
  refine (HD.out Aa Ca wf ((H.out.ok).same (HS1.out.trans hs (fun _ _ h => h))) (Sl.same HI.out (HS1.out.trans hs (fun _ _ h => h)))).mono ?_
  rintro e wg ⟨Av, Cv, rfl, hNT⟩
  have hs := hs.trans hNT.2.2 (fun _ _ h => h)
  have hop := Own.frm hop hNT.2.2 (fun _ _ => id)
  have hBp := hBp.frm hNT.2.2 id
  have hoq := hNT.1
  clear hNT
  have hcp0 : wg.cell? ⟨Tp, 0, none⟩ = some (.int .i64 rn) := hBp.cell 0
  have hcp1 : wg.cell? ⟨Tp, 1, none⟩ = some (.slice Au rws.length Cu) := hBp.cell 1
  have hlp := hBp.lt
  clear hBp
  go_wp2_with (fail)
  refine call_world fun wh hwh => ?_
  have hsv : Same wg wh := by rw [hwh]; exact (Frm.refl _ _).alloc _
  have hop := Own.frm hop hsv (fun _ _ => id)
  have hoq := Own.frm hoq hsv (fun _ _ => id)
  have hs := hs.trans hsv (fun _ _ h => h)
  clear hwh hsv hcp0 hcp1 hlp
  refine (alike_any rn Au rws.length Cu rws re rn Av rws.length Cv rws re wh (hop.sl ucell_len) (hoq.sl ucell_len) hrl).mono ?_
  rintro e wi ⟨rfl, hsv⟩
  rw [sm_self, beq_self_eq_true, Bool.and_true]
  have hs := hs.trans hsv (fun _ _ h => h)
  clear hop hoq hsv
  go_wp2
  go_ret
  exact ⟨rfl, (HS1.out.trans hs (fun _ _ h => h)).to_below (Nat.le_refl _) (fun _ _ => id)⟩
end Go.Proofs.Ytlggmoghgoeiiaa

/- The walk of TrRenam beside the given rows. -/
