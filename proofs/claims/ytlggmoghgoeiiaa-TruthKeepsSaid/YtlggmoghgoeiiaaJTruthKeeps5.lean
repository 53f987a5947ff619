/- Contracts and plain laws, put together in one file. No condition. -/
import Derived.Test.YtlggmoghgoeiiaaJTruthKeeps4


/- Truth tables: Renamed of the program. -/
namespace Go.Tk
/-- which numbers stand among the first k -/
def seenL (xs : List Int) (k n : Nat) : List Bool := (List.range n).map fun j : Nat => decide ((j : Int) ∈ xs.take k)
theorem seenL_len (xs : List Int) (k n : Nat) : (seenL xs k n).length = n := by simp [seenL]
theorem seenL_get (xs : List Int) (k : Nat) {n j : Nat} (h : j < n) : (seenL xs k n)[j]? = some (decide ((j : Int) ∈ xs.take k)) := by simp [seenL, h]
theorem seenL_zero (xs : List Int) (n : Nat) : seenL xs 0 n = List.replicate n false := by
  apply List.ext_getElem?
  intro j
  rcases Nat.lt_or_ge j n with h | h
  · rw [seenL_get xs 0 h]; simp [h]
  · rw [List.getElem?_eq_none (by rw [seenL_len]; exact h), List.getElem?_eq_none (by simpa using h)]
theorem seenL_set {xs : List Int} {k n : Nat} {x : Nat} (h : xs[k]? = some (x : Int)) (hx : x < n) : (seenL xs k n).set x true = seenL xs (k + 1) n := by
  apply List.ext_getElem?
  intro j
  rcases Nat.lt_or_ge j n with hj | hj
  · rw [seenL_get xs (k + 1) hj, List.getElem?_set, seenL_len, seenL_get xs k hj, take_add1 h]
    split
    · rename_i he; subst he; simp
    · rename_i hne
      congr 1
      have : ¬ ((j : Int) = (x : Int)) := by omega
      simp [this]
  · rw [List.getElem?_eq_none (by simp [seenL_len, hj]), List.getElem?_eq_none (by rw [seenL_len]; exact hj)]
def GoodN (n : Nat) (xs : List Int) (k : Nat) : Prop := (∀ x, x ∈ xs.take k → 0 ≤ x ∧ x < n) ∧ (xs.take k).Nodup
theorem GoodN.next {n : Nat} {xs : List Int} {k : Nat} {x : Int} (h : GoodN n xs k) (hx : xs[k]? = some x) (h0 : 0 ≤ x) (h1 : x < n) (hn : x ∉ xs.take k) : GoodN n xs (k + 1) := by
  unfold GoodN
  rw [take_add1 hx]
  refine ⟨fun y hy => ?_, ?_⟩
  · rcases List.mem_append.1 hy with hy | hy
    · exact h.1 y hy
    · simp at hy; subst hy; exact ⟨h0, h1⟩
  · rw [List.nodup_append]
    exact ⟨h.2, by simp, fun a ha b hb => by simp at hb; subst hb; rintro rfl; exact hn ha⟩
theorem prmB_range {n : Nat} {xs : List Int} {k : Nat} {x : Int} (hx : xs[k]? = some x) (h : x < 0 ∨ (n : Int) ≤ x) : prmB n xs = false := by
  cases hp : prmB n xs with
  | false => rfl
  | true =>
    have h1 := prmB_true.1 hp
    have h2 := h1.perm.1 x (List.mem_of_getElem? hx)
    rw [h1.len] at h2
    omega
theorem prmB_dup {n : Nat} {xs : List Int} {k : Nat} {x : Int} (hx : xs[k]? = some x) (h : x ∈ xs.take k) : prmB n xs = false := by
  cases hp : prmB n xs with
  | false => rfl
  | true =>
    have h1 := prmB_true.1 hp
    have h3 : (xs.take (k + 1)).Nodup := h1.perm.2.sublist (List.take_sublist _ _)
    rw [take_add1 hx, List.nodup_append] at h3
    exact absurd rfl (h3.2.2 x h x (by simp))
theorem prmB_good {n : Nat} {xs : List Int} (h : GoodN n xs xs.length) (hl : xs.length = n) : PermN n xs := by
  unfold GoodN at h
  rw [List.take_length] at h
  exact ⟨hl, fun x hx => by rw [hl]; exact h.1 x hx, h.2⟩
theorem prmB_len {n : Nat} {xs : List Int} (h : xs.length ≠ n) : prmB n xs = false := by
  cases hp : prmB n xs with
  | false => rfl
  | true => exact absurd (prmB_true.1 hp).len h
theorem ren_zero (n : Nat) (p : List Int) (ws : List Nat) : ((List.range (nw n)).map fun _ => 0 &&& fullN n) = tab n (renP n p ws 0) := by
  unfold tab
  apply List.map_congr_left
  intro k _
  rw [Nat.zero_and]
  symm
  unfold word
  have : ∀ m, bsum (fun j => decide (64 * k + j < 2 ^ n) && renP n p ws 0 (64 * k + j)) m = 0 := by
    intro m
    induction m with
    | zero => rfl
    | succ m ih => rw [bsum, ih, renP_zero]; simp
  exact this 64
end Go.Tk
namespace Go.Proofs.Ytlggmoghgoeiiaa
open Go.RowKit Go.Tk

theorem mul_le16 {b u : Nat} (hb : b < 2) (hu : u < 16) : b * 2 ^ u ≤ 65536 := by
  have hpu : 2 ^ u ≤ 65536 := pow_le16 (show u ≤ 16 by omega)
  have h01 : b = 0 ∨ b = 1 := by omega
  rcases h01 with rfl | rfl
  · rw [Nat.zero_mul]; exact Nat.zero_le _
  · rw [Nat.one_mul]; exact hpu
theorem step_i {k m u s t : Nat} (hk : k < 65536) (hu : u < 16) (hs : s < 65536) (ht : s ||| (k / 2 ^ m % 2) * 2 ^ u = t) : ∃ q b c : Nat, (k : Int) / 2 ^ m = (q : Int) ∧ bits .and .i64 (q : Int) 1 = (b : Int) ∧ wrap64 ((b : Int) * 2 ^ u) = (c : Int) ∧ IntKind.i64.wrap ((b : Int) * 2 ^ u) = (c : Int) ∧ bits .or .i64 (s : Int) (c : Int) = (t : Int) ∧ c ≤ 65536 ∧ b < 2 ∧ q < 65536 ∧ (b : Int) * 2 ^ u = (c : Int) := by
  have hqk : k / 2 ^ m ≤ k := Nat.div_le_self _ _
  have hd2 := i64_and_nat (k / 2 ^ m) 1 (by omega) (by omega)
  rw [nat_mask1] at hd2
  have hb2 : k / 2 ^ m % 2 < 2 := Nat.mod_lt _ (by omega)
  have hc := mul_le16 hb2 hu
  have hmul : ((k / 2 ^ m % 2 : Nat) : Int) * 2 ^ u = (((k / 2 ^ m % 2) * 2 ^ u : Nat) : Int) := by rw [pow_int, ← Int.natCast_mul]
  refine ⟨k / 2 ^ m, k / 2 ^ m % 2, (k / 2 ^ m % 2) * 2 ^ u, by rw [pow_int]; exact (Int.natCast_ediv _ _).symm, hd2, ?_, ?_, ?_, hc, hb2, by omega, hmul⟩
  · rw [hmul]
    generalize (k / 2 ^ m % 2) * 2 ^ u = c at hc
    exact IntWalk.wrap64_in _ (by omega)
  · rw [hmul]
    generalize (k / 2 ^ m % 2) * 2 ^ u = c at hc
    exact IntWalk.i64_in _ (by omega)
  · rw [← ht]
    generalize (k / 2 ^ m % 2) * 2 ^ u = c at hc
    exact i64_or_nat s c (by omega) (by omega)
theorem step_w {x y r1 r2 : Nat} {v : Bool} (hx : x < 18446744073709551616) (hy : y < 18446744073709551616) (hr : r2 < 64) (hv : v = y.testBit r1) :
    ∃ z b c : Nat, (y : Int) / 2 ^ r1 = (z : Int) ∧ bits .and .u64 (z : Int) 1 = (b : Int) ∧ IntKind.u64.wrap ((b : Int) * 2 ^ r2) = (c : Int) ∧ bits .or .u64 (x : Int) (c : Int) = ((x ||| (if v then 1 else 0) * 2 ^ r2 : Nat) : Int) ∧ b < 2 ∧ z < 18446744073709551616 ∧ c < 18446744073709551616 := by
  have hyq : y / 2 ^ r1 ≤ y := Nat.div_le_self _ _
  have hbit : y / 2 ^ r1 % 2 = if v then 1 else 0 := by
    rw [hv, Nat.testBit_eq_decide_div_mod_eq]
    rcases Nat.mod_two_eq_zero_or_one (y / 2 ^ r1) with h | h <;> rw [h] <;> rfl
  have hb1 : (if v then 1 else 0) < 2 := by split <;> omega
  have he2 := u64_and_nat (y / 2 ^ r1) 1 (by omega) (by omega)
  rw [nat_mask1, hbit] at he2
  have hpr : 2 ^ r2 ≤ 9223372036854775808 := show 2 ^ r2 ≤ 2 ^ 63 from Nat.pow_le_pow_right (by omega) (by omega)
  have hbp : (if v then 1 else 0) * 2 ^ r2 ≤ 9223372036854775808 := by
    cases v
    · rw [if_neg (by decide), Nat.zero_mul]; exact Nat.zero_le _
    · rw [if_pos rfl, Nat.one_mul]; exact hpr
  refine ⟨y / 2 ^ r1, if v then 1 else 0, (if v then 1 else 0) * 2 ^ r2, by rw [pow_int]; exact (Int.natCast_ediv _ _).symm, he2, ?_, ?_, hb1, by omega, by omega⟩
  · rw [pow_int, ← Int.natCast_mul]
    generalize (if v then 1 else 0) * 2 ^ r2 = bp at hbp
    exact IntWalk.u64_in _ (by omega)
  · generalize (if v then 1 else 0) * 2 ^ r2 = bp at hbp
    exact u64_or_nat x bp hx (by omega)
theorem dm64 (k : Nat) : (k : Int) / 64 = ((k / 64 : Nat) : Int) ∧ (k : Int) % 64 = ((k % 64 : Nat) : Int) ∧ k % 64 < 64 ∧ min (k % 64) 64 = k % 64 ∧ (0 : Int) ≤ ((k / 64 : Nat) : Int) := by
  refine ⟨by omega, by omega, by omega, by omega, by omega⟩
theorem ren1_any (i : Nat) (w : World) : Calls Try.prog 73 #[.int .i64 i] w fun e w' => e = .returned (.int .u64 ((0 : Nat) : Int)) ∧ w = w' := by
  go_enter Try.func73, Try.ntmps73
  go_wp2
  go_ret
  exact ⟨rfl, rfl⟩
set_option maxRecDepth 100000 in
set_option maxHeartbeats 16000000 in
theorem Renamed_any (Na : Int) (Aa : Option Addr) (Ca : Nat) (wsa : List Nat) (Ap : Option Addr) (Lp Cp : Nat) (p : List Int) (w : World) (h : TbOk w ⟨Na, Aa, Ca, wsa⟩) (hp : IL w Ap Lp p) (hLp : Lp ≤ 1000000000000000000) : Calls Try.prog 38 #[.agg #[.int .i64 Na, .slice Aa wsa.length Ca], .slice Ap Lp Cp] w (RetA w Na (tab Na.toNat (renF Na.toNat p wsa)) (rnE Na p wsa)) := by
  have H := Lib.hid h
  have HP := Lib.hid hp
  unfold rnE
  cases hfr : frm Na wsa with
  | false =>
    rw [if_neg (by decide)]
    unfold RetA
    rw [show ansN Na 5 = 0 from rfl, show ansL (tab Na.toNat (renF Na.toNat p wsa)) 5 = [] from rfl]
    have HFM := Lib.hid ((frm_one Na Aa Ca wsa).trans hfr)
    clear hfr hp h
    go_enter Try.func38, Try.ntmps38
    go_upto_region 1 with fail
    refine wp_world fun w1 hw1 => ?_
    have hs1 : Same w w1 := by rw [hw1]; exact ((Frm.refl _ _).alloc _).alloc _
    have hBXa : Blk w1 (w.heap.size) 24 #[.int .i64 Na, .slice Aa wsa.length Ca] := by
      rw [hw1]
      have := ((Blk.new w 24 #[.int .i64 Na, .slice Aa wsa.length Ca]).alloc (.cells #[.int .i64 0, .slice none 0 0] 24))
      simpa using this
    have hBR : Blk w1 (w.heap.size + 1) 24 #[.int .i64 0, .slice none 0 0] := by
      rw [hw1]
      have := (Blk.new (w.alloc (.cells #[.int .i64 Na, .slice Aa wsa.length Ca] 24)) 24 #[.int .i64 0, .slice none 0 0])
      simpa using this
    clear hw1
    obtain ⟨R, hR⟩ : ∃ b, w.heap.size + 1 = b := ⟨_, rfl⟩
    rw [hR] at hBR ⊢
    have leR : w.heap.size ≤ R := by omega
    have neXaR : w.heap.size ≠ R := by omega
    clear hR
    have cXa0 : w1.cell? ⟨w.heap.size, 0, none⟩ = some (.int .i64 Na) := hBXa.cell 0
    have cXa1 : w1.cell? ⟨w.heap.size, 1, none⟩ = some (.slice Aa wsa.length Ca) := hBXa.cell 1
    have lXa := hBXa.lt
    have fXa0 := hBXa.free 0
    have fXa1 := hBXa.free 1
    have HBXa := Lib.hid hBXa
    have cR0 : w1.cell? ⟨R, 0, none⟩ = some (.int .i64 0) := hBR.cell 0
    have cR1 : w1.cell? ⟨R, 1, none⟩ = some (.slice none 0 0) := hBR.cell 1
    have lR := hBR.lt
    have fR0 := hBR.free 0
    have fR1 := hBR.free 1
    have HBR := Lib.hid hBR
    have HS1 := Lib.hid hs1
    clear hs1 hBXa hBR
    have HOKa := Lib.hid (H.out.same HS1.out)
    go_wp2_with (fail)
    refine call_world fun w2 hw2 => ?_
    have hs2 : Same w1 w2 := by rw [hw2]; exact (Frm.refl _ _).alloc _
    have hBL : Blk w2 w1.heap.size 24 #[.int .i64 Na, .slice Aa wsa.length Ca] := by rw [hw2]; exact Blk.new _ _ _
    have htbs : Tbs w2 w1.heap.size [⟨Na, Aa, Ca, wsa⟩] := by
      intro i t hi
      match i, hi with
      | 0, hi =>
        simp only [List.getElem?_cons_zero, Option.some.injEq] at hi
        subst hi
        exact ⟨hBL.lt, hBL.cell 0, hBL.cell 1⟩
      | i + 1, hi => simp at hi
    have hfc := form_any w1.heap.size 1 1 [⟨Na, Aa, Ca, wsa⟩] w2 rfl (by decide) htbs (fun t ht => by
      simp only [List.mem_cons, List.not_mem_nil, or_false] at ht
      rcases ht with rfl
      · exact (HOKa.out).same hs2)
    rw [HFM.out] at hfc
    refine hfc.mono ?_
    clear hfc htbs hBL hw2
    rintro e w3 ⟨rfl, hs3⟩
    have hs13 : Same w1 w3 := hs2.trans hs3 (fun _ _ h => h)
    clear hs2 hs3
    replace HBXa := Lib.hid (HBXa.out.frm hs13 id)
    replace cXa0 : w3.cell? ⟨w.heap.size, 0, none⟩ = some (.int .i64 Na) := HBXa.out.cell 0
    replace cXa1 : w3.cell? ⟨w.heap.size, 1, none⟩ = some (.slice Aa wsa.length Ca) := HBXa.out.cell 1
    replace lXa := HBXa.out.lt
    replace fXa0 := HBXa.out.free 0
    replace fXa1 := HBXa.out.free 1
    replace HBR := Lib.hid (HBR.out.frm hs13 id)
    replace cR0 : w3.cell? ⟨R, 0, none⟩ = some (.int .i64 0) := HBR.out.cell 0
    replace cR1 : w3.cell? ⟨R, 1, none⟩ = some (.slice none 0 0) := HBR.out.cell 1
    replace lR := HBR.out.lt
    replace fR0 := HBR.out.free 0
    replace fR1 := HBR.out.free 1
    replace HS1 := Lib.hid (HS1.out.trans hs13 (fun _ _ h => h))
    clear hs13
    go_wp2
    refine wp_post fun we hwe => ?_
    have hBE : Blk we R 24 #[.int .i64 0, .slice none 0 0] := by
      rw [hwe]
      have := (HBR.out.set 0 (.int .i64 0)).set 1 (.slice none 0 0)
      simpa using this
    have hSE : Same w we := by rw [hwe]; exact (HS1.out.setNew 0 _ leR).setNew 1 _ leR
    have hr0 : we.cell? ⟨R, 0, none⟩ = some (.int .i64 0) := hBE.cell 0
    have hr1 : we.cell? ⟨R, 1, none⟩ = some (.slice none 0 0) := hBE.cell 1
    clear hwe hBE
    refine bodyPost_ret (v := .tuple #[.agg #[.int .i64 0, .slice none 0 0], .int .i64 5]) (by simp [results, Try.results38, go_sem, hr0, hr1]) rfl ?_
    exact ⟨none, 0, rfl, NewT.nil hSE⟩
  | true =>
    rw [if_pos rfl]
    obtain ⟨n, rfl, hform⟩ := frm_true hfr
    have HFM := Lib.hid ((frm_one n Aa Ca wsa).trans hfr)
    have hn := hform.n16
    rw [Int.toNat_natCast]
    have hpl := hp.len
    have hmk := fun w => run_make_n (P := Try.prog) Try.underlying26 info_bool .i64 .i64 n (show 1 * n ≤ 281474976710656 by omega) (show n ≤ 9223372036854775807 by omega) w
    obtain ⟨err, herr⟩ : ∃ e : Int, (if prmB n p = true then (0 : Int) else 4) = e := ⟨_, rfl⟩
    rw [herr]
    have HERR := Lib.hid herr
    have HPL := Lib.hid hpl
    have HFa := Lib.hid hform
    clear hfr hp h hpl herr hform
    unfold RetA
    go_enter Try.func38, Try.ntmps38
    go_upto_region 1 with fail
    refine wp_world fun w1 hw1 => ?_
    have hs1 : Same w w1 := by rw [hw1]; exact ((Frm.refl _ _).alloc _).alloc _
    have hBXa : Blk w1 (w.heap.size) 24 #[.int .i64 n, .slice Aa wsa.length Ca] := by
      rw [hw1]
      have := ((Blk.new w 24 #[.int .i64 n, .slice Aa wsa.length Ca]).alloc (.cells #[.int .i64 0, .slice none 0 0] 24))
      simpa using this
    have hBR : Blk w1 (w.heap.size + 1) 24 #[.int .i64 0, .slice none 0 0] := by
      rw [hw1]
      have := (Blk.new (w.alloc (.cells #[.int .i64 n, .slice Aa wsa.length Ca] 24)) 24 #[.int .i64 0, .slice none 0 0])
      simpa using this
    clear hw1
    obtain ⟨R, hR⟩ : ∃ b, w.heap.size + 1 = b := ⟨_, rfl⟩
    rw [hR] at hBR ⊢
    have leR : w.heap.size ≤ R := by omega
    have neXaR : w.heap.size ≠ R := by omega
    clear hR
    have cXa0 : w1.cell? ⟨w.heap.size, 0, none⟩ = some (.int .i64 n) := hBXa.cell 0
    have cXa1 : w1.cell? ⟨w.heap.size, 1, none⟩ = some (.slice Aa wsa.length Ca) := hBXa.cell 1
    have lXa := hBXa.lt
    have fXa0 := hBXa.free 0
    have fXa1 := hBXa.free 1
    have HBXa := Lib.hid hBXa
    have cR0 : w1.cell? ⟨R, 0, none⟩ = some (.int .i64 0) := hBR.cell 0
    have cR1 : w1.cell? ⟨R, 1, none⟩ = some (.slice none 0 0) := hBR.cell 1
    have lR := hBR.lt
    have fR0 := hBR.free 0
    have fR1 := hBR.free 1
    have HBR := Lib.hid hBR
    have HS1 := Lib.hid hs1
    clear hs1 hBXa hBR
    have HOKa := Lib.hid (H.out.same HS1.out)
    go_wp2_with (fail)
    refine call_world fun w2 hw2 => ?_
    have hs2 : Same w1 w2 := by rw [hw2]; exact (Frm.refl _ _).alloc _
    have hBL : Blk w2 w1.heap.size 24 #[.int .i64 n, .slice Aa wsa.length Ca] := by rw [hw2]; exact Blk.new _ _ _
    have htbs : Tbs w2 w1.heap.size [⟨n, Aa, Ca, wsa⟩] := by
      intro i t hi
      match i, hi with
      | 0, hi =>
        simp only [List.getElem?_cons_zero, Option.some.injEq] at hi
        subst hi
        exact ⟨hBL.lt, hBL.cell 0, hBL.cell 1⟩
      | i + 1, hi => simp at hi
    have hfc := form_any w1.heap.size 1 1 [⟨n, Aa, Ca, wsa⟩] w2 rfl (by decide) htbs (fun t ht => by
      simp only [List.mem_cons, List.not_mem_nil, or_false] at ht
      rcases ht with rfl
      · exact (HOKa.out).same hs2)
    rw [HFM.out] at hfc
    refine hfc.mono ?_
    clear hfc htbs hBL hw2
    rintro e w3 ⟨rfl, hs3⟩
    have hs13 : Same w1 w3 := hs2.trans hs3 (fun _ _ h => h)
    clear hs2 hs3
    replace HBXa := Lib.hid (HBXa.out.frm hs13 id)
    replace cXa0 : w3.cell? ⟨w.heap.size, 0, none⟩ = some (.int .i64 n) := HBXa.out.cell 0
    replace cXa1 : w3.cell? ⟨w.heap.size, 1, none⟩ = some (.slice Aa wsa.length Ca) := HBXa.out.cell 1
    replace lXa := HBXa.out.lt
    replace fXa0 := HBXa.out.free 0
    replace fXa1 := HBXa.out.free 1
    replace HBR := Lib.hid (HBR.out.frm hs13 id)
    replace cR0 : w3.cell? ⟨R, 0, none⟩ = some (.int .i64 0) := HBR.out.cell 0
    replace cR1 : w3.cell? ⟨R, 1, none⟩ = some (.slice none 0 0) := HBR.out.cell 1
    replace lR := HBR.out.lt
    replace fR0 := HBR.out.free 0
    replace fR1 := HBR.out.free 1
    replace HS1 := Lib.hid (HS1.out.trans hs13 (fun _ _ h => h))
    clear hs13
    go_upto_region 4 with fail
    refine wp_world fun w5 hw5 => ?_
    have hsv : Same w3 w5 := by rw [hw5]; exact (Frm.refl _ _).alloc _
    have hOD : OwnB w5 (some ⟨w3.heap.size, 0, none⟩) n n (seenL p 0 n) := by
      rw [seenL_zero, hw5]
      have := Own.ofMade (m := 1) w3 4 (fun b : Bool => [.bool b]) (fun _ => rfl) (by decide) false n (show n ≤ 9223372036854775807 by omega) rfl
      simpa using this
    clear hw5 hmk
    obtain ⟨D, hD⟩ : ∃ D, w3.heap.size = D := ⟨_, rfl⟩
    rw [hD] at hOD ⊢
    have hneXaD : w.heap.size ≠ D := by have := HBXa.out.lt; omega
    have hneRD : R ≠ D := by have := HBR.out.lt; omega
    have hDn : w.heap.size ≤ D := by have := HS1.out.size; omega
    have HOD := Lib.hid hOD
    clear hD hOD
    replace HBXa := Lib.hid (HBXa.out.frm hsv id)
    replace cXa0 : w5.cell? ⟨w.heap.size, 0, none⟩ = some (.int .i64 n) := HBXa.out.cell 0
    replace cXa1 : w5.cell? ⟨w.heap.size, 1, none⟩ = some (.slice Aa wsa.length Ca) := HBXa.out.cell 1
    replace lXa := HBXa.out.lt
    replace fXa0 := HBXa.out.free 0
    replace fXa1 := HBXa.out.free 1
    replace HBR := Lib.hid (HBR.out.frm hsv id)
    replace cR0 : w5.cell? ⟨R, 0, none⟩ = some (.int .i64 0) := HBR.out.cell 0
    replace cR1 : w5.cell? ⟨R, 1, none⟩ = some (.slice none 0 0) := HBR.out.cell 1
    replace lR := HBR.out.lt
    replace fR0 := HBR.out.free 0
    replace fR1 := HBR.out.free 1
    replace HS1 := Lib.hid (HS1.out.trans hsv (fun _ _ h => h))
    clear hsv
    go_wp2
    go_loopw [24] (fun i wr => ∃ k : Nat, k ≤ Lp ∧ i = .int .i64 k ∧ GoodN n p k ∧ Same w wr ∧ Blk wr w.heap.size 24 #[.int .i64 n, .slice Aa wsa.length Ca] ∧ Blk wr R 24 #[.int .i64 0, .slice none 0 0] ∧ OwnB wr (some ⟨D, 0, none⟩) n n (seenL p k n)) (fun i _ => Lp - (intOf i).toNat)
    case atStart => exact ⟨0, by omega, rfl, ⟨by simp, by simp⟩, HS1.out, HBXa.out, HBR.out, HOD.out⟩
    case round =>
      obtain ⟨k, hk, rfl, hg, hs, hBXa, hBR, hOD⟩ := hrel
      replace HS1 := Lib.hid hs
      replace HBXa := Lib.hid hBXa
      replace HBR := Lib.hid hBR
      replace HOD := Lib.hid hOD
      have HG := Lib.hid hg
      clear cXa0 cXa1 fXa0 fXa1 lXa cR0 cR1 fR0 fR1 lR hs hBXa hBR hOD hg
      have cXa0 : wr.cell? ⟨w.heap.size, 0, none⟩ = some (.int .i64 n) := HBXa.out.cell 0
      have cXa1 : wr.cell? ⟨w.heap.size, 1, none⟩ = some (.slice Aa wsa.length Ca) := HBXa.out.cell 1
      have lXa := HBXa.out.lt
      have cR0 : wr.cell? ⟨R, 0, none⟩ = some (.int .i64 0) := HBR.out.cell 0
      have cR1 : wr.cell? ⟨R, 1, none⟩ = some (.slice none 0 0) := HBR.out.cell 1
      have lR := HBR.out.lt
      have fR0 := HBR.out.free 0
      have fR1 := HBR.out.free 1
      by_cases hlt : k < Lp
      · obtain ⟨x, hx⟩ : ∃ x, p[k]? = some x := ⟨_, List.getElem?_eq_getElem (by rw [← HPL.out]; exact hlt)⟩
        obtain ⟨bp, op, hA, hb, hc⟩ := (Sl.same HP.out HS1.out).at1 hx
        subst hA
        have hk0 : (0 : Int) ≤ k := by omega
        have hk1 : (k : Int) < Lp := by omega
        have HX := Lib.hid hx
        clear hx
        by_cases h0 : x < 0
        · have he : err = 4 := by rw [← HERR.out, prmB_range HX.out (.inl h0), if_neg (by decide)]
          subst he
          go_wp2
          refine wp_post fun we hwe => ?_
          have hBE : Blk we R 24 #[.int .i64 0, .slice none 0 0] := by
            rw [hwe]
            have := (HBR.out.set 0 (.int .i64 0)).set 1 (.slice none 0 0)
            simpa using this
          have hSE : Same w we := by rw [hwe]; exact (HS1.out.setNew 0 _ leR).setNew 1 _ leR
          have hr0 : we.cell? ⟨R, 0, none⟩ = some (.int .i64 0) := hBE.cell 0
          have hr1 : we.cell? ⟨R, 1, none⟩ = some (.slice none 0 0) := hBE.cell 1
          clear hwe hBE
          refine bodyPost_ret (v := .tuple #[.agg #[.int .i64 0, .slice none 0 0], .int .i64 4]) (by simp [results, Try.results38, go_sem, hr0, hr1]) rfl ?_
          exact ⟨none, 0, rfl, NewT.nil hSE⟩
        by_cases h1 : x ≥ n
        · have he : err = 4 := by rw [← HERR.out, prmB_range HX.out (.inr h1), if_neg (by decide)]
          subst he
          go_wp2
          refine wp_post fun we hwe => ?_
          have hBE : Blk we R 24 #[.int .i64 0, .slice none 0 0] := by
            rw [hwe]
            have := (HBR.out.set 0 (.int .i64 0)).set 1 (.slice none 0 0)
            simpa using this
          have hSE : Same w we := by rw [hwe]; exact (HS1.out.setNew 0 _ leR).setNew 1 _ leR
          have hr0 : we.cell? ⟨R, 0, none⟩ = some (.int .i64 0) := hBE.cell 0
          have hr1 : we.cell? ⟨R, 1, none⟩ = some (.slice none 0 0) := hBE.cell 1
          clear hwe hBE
          refine bodyPost_ret (v := .tuple #[.agg #[.int .i64 0, .slice none 0 0], .int .i64 4]) (by simp [results, Try.results38, go_sem, hr0, hr1]) rfl ?_
          exact ⟨none, 0, rfl, NewT.nil hSE⟩
        obtain ⟨y, rfl⟩ := Int.eq_ofNat_of_zero_le (show 0 ≤ x by omega)
        have hyl : y < n := by omega
        have hyl2 : (y : Int) < n := by omega
        have hy3 : ¬ n ≤ y := by omega
        have hgt := seenL_get p k hyl
        obtain ⟨sb, hsb, hsl, hsc⟩ := Own.at1 (c := fun b : Bool => .bool b) HOD.out hgt
        injection hsb with hsb
        injection hsb with hsb
        subst hsb
        have hfr := Own.free HOD.out y
        clear hgt
        by_cases hd : (y : Int) ∈ p.take k
        · have hd' : decide ((y : Int) ∈ p.take k) = true := by simpa using hd
          rw [hd'] at hsc
          have he : err = 4 := by rw [← HERR.out, prmB_dup HX.out hd, if_neg (by decide)]
          subst he
          clear hd hd'
          go_wp2
          refine wp_post fun we hwe => ?_
          have hBE : Blk we R 24 #[.int .i64 0, .slice none 0 0] := by
            rw [hwe]
            have := (HBR.out.set 0 (.int .i64 0)).set 1 (.slice none 0 0)
            simpa using this
          have hSE : Same w we := by rw [hwe]; exact (HS1.out.setNew 0 _ leR).setNew 1 _ leR
          have hr0 : we.cell? ⟨R, 0, none⟩ = some (.int .i64 0) := hBE.cell 0
          have hr1 : we.cell? ⟨R, 1, none⟩ = some (.slice none 0 0) := hBE.cell 1
          clear hwe hBE
          refine bodyPost_ret (v := .tuple #[.agg #[.int .i64 0, .slice none 0 0], .int .i64 4]) (by simp [results, Try.results38, go_sem, hr0, hr1]) rfl ?_
          exact ⟨none, 0, rfl, NewT.nil hSE⟩
        · have hd' : decide ((y : Int) ∈ p.take k) = false := by simpa using hd
          rw [hd'] at hsc
          have HD := Lib.hid hd
          clear hd hd'
          have hst := Own.put1 (c := fun b : Bool => .bool b) HOD.out (i := y) (by rw [seenL_len]; exact hyl) true
          rw [seenL_set HX.out hyl] at hst
          have HST := Lib.hid hst
          clear hst
          go_wp2
          go_roundw
          case rel => exact ⟨k + 1, by omega, by go_num, HG.out.next HX.out (by omega) (by omega) HD.out, HS1.out.setNew y _ hDn, HBXa.out.far (p := ⟨D, y, none⟩) hneXaD _, HBR.out.far (p := ⟨D, y, none⟩) hneRD _, HST.out⟩
          case measure => simp [intOf]; omega
      · obtain rfl : k = Lp := by omega
        by_cases hln : k ≠ n
        · have he : err = 4 := by rw [← HERR.out, prmB_len (by rw [← HPL.out]; exact hln), if_neg (by decide)]
          subst he
          have hln2 : (k : Int) ≠ n := by omega
          go_wp2
          refine wp_post fun we hwe => ?_
          have hBE : Blk we R 24 #[.int .i64 0, .slice none 0 0] := by
            rw [hwe]
            have := (HBR.out.set 0 (.int .i64 0)).set 1 (.slice none 0 0)
            simpa using this
          have hSE : Same w we := by rw [hwe]; exact (HS1.out.setNew 0 _ leR).setNew 1 _ leR
          have hr0 : we.cell? ⟨R, 0, none⟩ = some (.int .i64 0) := hBE.cell 0
          have hr1 : we.cell? ⟨R, 1, none⟩ = some (.slice none 0 0) := hBE.cell 1
          clear hwe hBE
          refine bodyPost_ret (v := .tuple #[.agg #[.int .i64 0, .slice none 0 0], .int .i64 4]) (by simp [results, Try.results38, go_sem, hr0, hr1]) rfl ?_
          exact ⟨none, 0, rfl, NewT.nil hSE⟩
        obtain rfl : n = k := by omega
        have hPN : PermN n p := prmB_good (by rw [← HPL.out]; exact HG.out) HPL.out.symm
        have he : err = 0 := by rw [← HERR.out, prmB_true.2 hPN, if_pos rfl]
        subst he
        rw [show ansN n 0 = n from rfl, show ansL (tab n (renF n p wsa)) 0 = tab n (renF n p wsa) from rfl]
        have hsgl := fun (j k : Nat) (h : k ≤ n) => sg_lt hPN j k h
        have hsgo := fun (j k : Nat) (h : k < n) => sg_or hPN j h
        have hpvl := fun (v : Nat) (h : v < n) => hPN.lt h
        have hp0 : ∀ x ∈ p, 0 ≤ x := fun x hx => (hPN.perm.1 x hx).1
        have hset := fun (k : Nat) (h : k < 2 ^ n) => ren_word (ws := wsa) hPN h
        have hfull : tab n (renP n p wsa (2 ^ n)) = tab n (renF n p wsa) := tab_congr fun i _ => renP_full i
        have hdl : ∀ i, i < 2 ^ n → i / 64 < nw n := fun i hi => div_lt_nw hi
        have hdl2 : ∀ i, i < 2 ^ n → ∃ x, wsa[i / 64]? = some x := fun i hi => ⟨_, List.getElem?_eq_getElem (by rw [HFa.out.len]; exact div_lt_nw hi)⟩
        have hsw := pow_lt_shift hn
        have hsw2 := pow_lt_shift2 hn
        have hp16 := pow_le16 hn
        have hn0 : (0 : Int) ≤ n := by omega
        have hmn : min n 64 = n := by omega
        have hen : ∀ (args : Array Value) (w : World), (callFunc 73 args).run Try.prog w = .ok (.enter 73 args) w := enters_of Try.func73 (by kernel_rfl) rfl
        have HEN := Lib.hid hen
        have htl : Tells wr n 73 #[] (fun _ => 0) := fun i hi => ⟨by show (0 : Nat) < 18446744073709551616; omega, fun w' hs' => by
          refine (ren1_any i w').mono ?_
          rintro e w'' ⟨rfl, rfl⟩
          exact ⟨rfl, Frm.refl _ _⟩⟩
        have HTL := Lib.hid htl
        have hmf : ∀ (fn : Fn) (first cap : Array Value) (w : World), (Instr.makeFunc fn first cap).run Try.prog w = .ok (.func fn first cap) w := fun _ _ _ _ => rfl
        obtain ⟨M, hM⟩ : ∃ M, 2 ^ n = M := ⟨_, rfl⟩
        rw [hM] at hsgl hset hfull hdl hdl2 hsw hsw2 hp16
        have HSG := Lib.hid hsgl
        have HSO := Lib.hid hsgo
        have HPV := Lib.hid hpvl
        have HP0 := Lib.hid hp0
        have HSET := Lib.hid hset
        have HFULL := Lib.hid hfull
        have HDL := Lib.hid hdl
        have HDL2 := Lib.hid hdl2
        clear hsgl hsgo hpvl hp0 hset hfull hdl hdl2 hen htl hM hPN
        go_wp2_with (fail)
        refine (laid_any n 73 #[] (fun _ => 0) wr hn HEN.out HTL.out).mono ?_
        rintro e w6 ⟨Aq, Cq, rfl, hNT⟩
        rw [ren_zero n p wsa] at hNT ⊢
        obtain ⟨sb, rfl, hsbl⟩ := Own.form1 hNT.1 (by rw [tab_len]; exact nw_pos n)
        have hsbn : wr.heap.size ≤ sb := hNT.2.1 sb ⟨_, rfl, rfl⟩
        have hOT := hNT.1
        have hsv := hNT.2.2
        rw [tab_len] at hOT ⊢
        obtain ⟨K, hK⟩ : ∃ K, nw n = K := ⟨_, rfl⟩
        rw [hK] at hOT HDL ⊢
        have hneXs : w.heap.size ≠ sb := by omega
        have hneRs : R ≠ sb := by omega
        have hsbW : w.heap.size ≤ sb := by omega
        have HOT := Lib.hid hOT
        have hKl : (ansL (tab n (renF n p wsa)) 0).length = K := by rw [show ansL (tab n (renF n p wsa)) 0 = tab n (renF n p wsa) from rfl, tab_len, hK]
        have HKL := Lib.hid hKl
        have hKn := fun k => (tab_len n (renP n p wsa k)).trans hK
        have HKN := Lib.hid hKn
        clear hNT hOT hK hKl hKn hneXaD hneRD hDn HOD
        replace HBXa := Lib.hid (HBXa.out.frm hsv id)
        replace HBR := Lib.hid (HBR.out.frm hsv id)
        replace HS1 := Lib.hid (HS1.out.trans hsv (fun _ _ h => h))
        clear cXa0 cXa1 lXa cR0 cR1 lR fR0 fR1
        have cXa0 : w6.cell? ⟨w.heap.size, 0, none⟩ = some (.int .i64 n) := HBXa.out.cell 0
        have cXa1 : w6.cell? ⟨w.heap.size, 1, none⟩ = some (.slice Aa wsa.length Ca) := HBXa.out.cell 1
        have lXa := HBXa.out.lt
        have cR0 : w6.cell? ⟨R, 0, none⟩ = some (.int .i64 0) := HBR.out.cell 0
        have cR1 : w6.cell? ⟨R, 1, none⟩ = some (.slice none 0 0) := HBR.out.cell 1
        have lR := HBR.out.lt
        have fR0 := HBR.out.free 0
        have fR1 := HBR.out.free 1
        go_upto_region 14 with fail
        refine wp_world fun w7 hw7 => ?_
        have hsv : Same w6 w7 := by rw [hw7]; exact (Frm.refl _ _).alloc _
        have hBT : Blk w7 w6.heap.size 24 #[.int .i64 n, .slice (some ⟨sb, 0, none⟩) K Cq] := by rw [hw7]; exact Blk.new _ _ _
        clear hw7
        replace HBXa := Lib.hid (HBXa.out.frm hsv id)
        replace HBR := Lib.hid (HBR.out.frm hsv id)
        replace HS1 := Lib.hid (HS1.out.trans hsv (fun _ _ h => h))
        replace HOT := Lib.hid (Own.frm HOT.out hsv (fun _ _ => id))
        obtain ⟨T, hT⟩ : ∃ b, w6.heap.size = b := ⟨_, rfl⟩
        rw [hT] at hBT ⊢
        have hneTs : T ≠ sb := by omega
        have HBT := Lib.hid hBT
        clear hT hBT hsv hsbl cXa0 cXa1 lXa cR0 cR1 lR fR0 fR1
        have cXa0 : w7.cell? ⟨w.heap.size, 0, none⟩ = some (.int .i64 n) := HBXa.out.cell 0
        have cXa1 : w7.cell? ⟨w.heap.size, 1, none⟩ = some (.slice Aa wsa.length Ca) := HBXa.out.cell 1
        have lXa := HBXa.out.lt
        have cR0 : w7.cell? ⟨R, 0, none⟩ = some (.int .i64 0) := HBR.out.cell 0
        have cR1 : w7.cell? ⟨R, 1, none⟩ = some (.slice none 0 0) := HBR.out.cell 1
        have lR := HBR.out.lt
        have fR0 := HBR.out.free 0
        have fR1 := HBR.out.free 1
        go_wp2
        go_loopw [59] (fun i wr => ∃ k : Nat, k ≤ M ∧ i = .int .i64 k ∧ Same w wr ∧ Blk wr w.heap.size 24 #[.int .i64 n, .slice Aa wsa.length Ca] ∧ Blk wr R 24 #[.int .i64 0, .slice none 0 0] ∧ Blk wr T 24 #[.int .i64 n, .slice (some ⟨sb, 0, none⟩) K Cq] ∧ OwnW wr (some ⟨sb, 0, none⟩) K Cq (tab n (renP n p wsa k))) (fun i _ => M - (intOf i).toNat)
        case atStart => exact ⟨0, by omega, rfl, HS1.out, HBXa.out, HBR.out, HBT.out, HOT.out⟩
        case round =>
          obtain ⟨k, hk, rfl, hs, hBXa, hBR, hBT, hOT⟩ := hrel
          replace HS1 := Lib.hid hs
          replace HBXa := Lib.hid hBXa
          replace HBR := Lib.hid hBR
          replace HBT := Lib.hid hBT
          replace HOT := Lib.hid hOT
          clear cXa0 cXa1 lXa cR0 cR1 lR fR0 fR1 hs hBXa hBR hBT hOT
          by_cases hltM : k < M
          · have hk0 : (0 : Int) ≤ k := by omega
            have hk1 : (k : Int) < M := by omega
            go_wp2
            refine wp_world fun wq hwq => ?_
            subst hwq
            go_loopw [11, 64] (fun s i wi => ∃ m : Nat, m ≤ n ∧ i = .int .i64 m ∧ s = .int .i64 (sg p k m : Nat) ∧ wq = wi) (fun _ i _ => n - (intOf i).toNat)
            case atStart => exact ⟨0, by omega, rfl, rfl, rfl⟩
            case round =>
              obtain ⟨m, hm, rfl, rfl, rfl⟩ := hrel
              have hsl := HSG.out k m (by omega)
              by_cases hlm : m < n
              · obtain ⟨x, hx⟩ : ∃ x, p[m]? = some x := ⟨_, List.getElem?_eq_getElem (by rw [← HPL.out]; exact hlm)⟩
                obtain ⟨bp, op, hA, hb, hc⟩ := (Sl.same HP.out HS1.out).at1 hx
                have hpv := HPV.out m hlm
                have hx0 := HP0.out x (List.mem_of_getElem? hx)
                have hor := HSO.out k m hlm
                rw [pv_get hx] at hpv hor
                obtain ⟨u, rfl⟩ := Int.eq_ofNat_of_zero_le hx0
                rw [Int.toNat_natCast] at hpv hor
                subst hA
                have hm0 : (0 : Int) ≤ m := by omega
                have hm1 : (m : Int) < n := by omega
                obtain ⟨q, b, c, hd1, hd2, hd3, hd5, hd4, hc16, hb2, hq16, hd6⟩ := step_i (k := k) (m := m) (u := u) (by omega) (by omega) (by omega) hor
                have hu0 : (0 : Int) ≤ u := by omega
                have hmu : min u 64 = u := by omega
                have hmm : min m 64 = m := by omega
                clear hor hx
                go_wp2
                go_roundw
                case rel => exact ⟨m + 1, by omega, by go_num, rfl, trivial⟩
                case measure => simp [intOf]; omega
              · have hmn : m = n := by omega
                subst hmn
                obtain ⟨y, hy⟩ := HDL2.out k hltM
                have hyl := H.out.small.at1 hy
                have hkl : k / 64 < wsa.length := lt_get hy
                have hvb : vb wsa k = y.testBit (k % 64) := by unfold vb; rw [List.getD_eq_getElem?_getD, hy]; rfl
                obtain ⟨ba, offa, hAa, hbla, hca⟩ := WL.at1 (Sl.same H.out.wl HS1.out) hy
                simp only at hAa
                subst hAa
                have hset := HSET.out k hltM
                have hdk := HDL.out (sg p k m) hsl
                have hget : (tab m (renP m p wsa k))[sg p k m / 64]? = some (word m (renP m p wsa k) (sg p k m / 64)) := tab_get (by have := HKN.out k; rw [tab_len] at this; rw [this]; exact hdk)
                have hwl := word_lt m (renP m p wsa k) (sg p k m / 64)
                obtain ⟨sb', hsb', hsl2, hsc⟩ := HOT.out.at1 (c := fun x : Nat => .int .u64 (x : Int)) hget
                injection hsb' with hsb'
                injection hsb' with hsb'
                subst hsb'
                have hst := fun (w' : World) (hs' : Same wq w') => Own.put1 (c := fun x : Nat => .int .u64 (x : Int)) (Own.frm HOT.out hs' (fun _ _ => id)) (i := sg p k m / 64) (by rw [HKN.out]; exact hdk) (word m (renP m p wsa k) (sg p k m / 64) ||| (if vb wsa k then 1 else 0) * 2 ^ (sg p k m % 64))
                rw [hset] at hst
                obtain ⟨hn1, hn2, hr1, hm1, hq2⟩ := dm64 k
                obtain ⟨hn3, hn4, hr2, hm2, hq4⟩ := dm64 (sg p k m)
                have hq1 : ((k / 64 : Nat) : Int) < wsa.length := Int.ofNat_lt.2 hkl
                have hq3 : ((sg p k m / 64 : Nat) : Int) < K := Int.ofNat_lt.2 hdk
                have hcT : _ = some (Value.slice (some ⟨sb, 0, none⟩) K Cq) := HBT.out.cell 1
                have hlT := HBT.out.lt
                have hcX : _ = some (Value.slice (some ⟨ba, offa, none⟩) wsa.length Ca) := HBXa.out.cell 1
                have hlX := HBXa.out.lt
                obtain ⟨z, b, bp, he1, he2, he3, he4, hb1, hz64, hbp64⟩ := step_w (x := word m (renP m p wsa k) (sg p k m / 64)) (y := y) (r1 := k % 64) (r2 := sg p k m % 64) (v := vb wsa k) hwl hyl hr2 hvb
                have hHST := Lib.hid hst
                clear hst hset hget hy hvb
                generalize word m (renP m p wsa k) (sg p k m / 64) ||| (if vb wsa k then 1 else 0) * 2 ^ (sg p k m % 64) = nx at *
                generalize word m (renP m p wsa k) (sg p k m / 64) = x at *
                generalize sg p k m % 64 = r2 at *
                generalize sg p k m / 64 = q2 at *
                generalize sg p k m = sk at *
                generalize k % 64 = r1 at *
                generalize k / 64 = q1 at *
                go_upto_region 23 with fail
                refine wp_quiet_tail 21 (by kernel_rfl) (by kernel_rfl) ?_
                simp only [List.take_succ_cons, List.take_zero, List.drop_succ_cons, List.drop_zero]
                repeat (any_goals (first | go_big_quiet_step (fail) | quiet_step (fail)))
                refine wpQuiet_nil ?_
                rintro wz ⟨q, hq⟩
                have hsz : Same wq wz := by rw [hq]; exact more_same _ q
                have hfz := Own.free (Own.frm HOT.out hsz (fun _ _ => id)) q2
                have hcz := (hsz.cell (p := ⟨sb, q2, none⟩) hsl2 id).trans hsc
                have HSZ := Lib.hid ((HS1.out.trans hsz (fun _ _ h => h)).setNew (g := sb) q2 (.int .u64 (nx : Int)) hsbW)
                have HBXz := Lib.hid ((HBXa.out.frm hsz id).far (p := ⟨sb, q2, none⟩) hneXs (.int .u64 (nx : Int)))
                have HBRz := Lib.hid ((HBR.out.frm hsz id).far (p := ⟨sb, q2, none⟩) hneRs (.int .u64 (nx : Int)))
                have HBTz := Lib.hid ((HBT.out.frm hsz id).far (p := ⟨sb, q2, none⟩) hneTs (.int .u64 (nx : Int)))
                have HOZ := Lib.hid (hHST.out wz hsz)
                have hsbz : sb < wz.heap.size := Nat.lt_of_lt_of_le hsl2 hsz.size
                clear hq hsz hsc hsl2 hcT hlT hcX hlX hca hbla hn1 hn2 hn3 hn4 he1 he2 he3 he4 hm1 hm2
                go_wp2
                go_roundw
                case rel => exact ⟨k + 1, hltM, by go_num, HSZ.out, HBXz.out, HBRz.out, HBTz.out, HOZ.out⟩
                case measure => simp [intOf]; omega
          · obtain rfl : k = M := by omega
            rw [HFULL.out] at HOT
            have cT0 : _ = some (Value.int .i64 n) := HBT.out.cell 0
            have cT1 : _ = some (Value.slice (some ⟨sb, 0, none⟩) K Cq) := HBT.out.cell 1
            have lT := HBT.out.lt
            have cR0 : wr.cell? ⟨R, 0, none⟩ = some (.int .i64 0) := HBR.out.cell 0
            have cR1 : wr.cell? ⟨R, 1, none⟩ = some (.slice none 0 0) := HBR.out.cell 1
            have lR := HBR.out.lt
            have fR0 := HBR.out.free 0
            have fR1 := HBR.out.free 1
            go_wp2
            refine wp_post fun we hwe => ?_
            have hBE : Blk we R 24 #[.int .i64 n, .slice (some ⟨sb, 0, none⟩) K Cq] := by
              rw [hwe]
              have := (HBR.out.set 0 (.int .i64 n)).set 1 (.slice (some ⟨sb, 0, none⟩) K Cq)
              simpa using this
            have hSE : Same w we := by rw [hwe]; exact (HS1.out.setNew 0 _ leR).setNew 1 _ leR
            have hOE : OwnW we (some ⟨sb, 0, none⟩) K Cq (tab n (renF n p wsa)) := by
              rw [hwe]
              exact (Own.far (p := ⟨R, 0, none⟩) HOT.out (fun a ha h => by injection ha with ha; subst ha; exact hneRs h.symm) _).far (p := ⟨R, 1, none⟩) (fun a ha h => by injection ha with ha; subst ha; exact hneRs h.symm) _
            have hr0 : we.cell? ⟨R, 0, none⟩ = some (.int .i64 n) := hBE.cell 0
            have hr1 : we.cell? ⟨R, 1, none⟩ = some (.slice (some ⟨sb, 0, none⟩) K Cq) := hBE.cell 1
            clear hwe hBE
            refine bodyPost_ret (v := .tuple #[.agg #[.int .i64 n, .slice (some ⟨sb, 0, none⟩) K Cq], .int .i64 0]) (by simp [results, Try.results38, go_sem, hr0, hr1]) rfl ?_
            refine ⟨some ⟨sb, 0, none⟩, Cq, by rw [HKL.out]; rfl, ?_, fresh_some hsbW, hSE⟩
            rw [HKL.out]
            exact hOE
end Go.Proofs.Ytlggmoghgoeiiaa


/- Truth tables: TruthRenames: the walk. -/
namespace Go.Proofs.Ytlggmoghgoeiiaa
open Go.RowKit Go.Tk

theorem info_int : (Try.prog.info? 3).map (fun i => (i.zero, i.size, i.bytes)) = some (some (.int .i64 0), 1, 8) := by kernel_rfl
theorem i_flat : ∀ xs : List Int, xs.flatMap icell = xs.map fun x : Int => Value.int .i64 x
  | [] => rfl
  | x :: xs => by rw [List.flatMap_cons, List.map_cons, i_flat xs]; rfl
theorem il_src {w : World} {A : Option Addr} {n : Nat} {xs : List Int} (h : IL w A n xs) (hne : xs ≠ []) : ∃ ad, A = some ad ∧ ∀ j u, (xs.flatMap icell)[j]? = some u → w.cell? (ad.add j) = some u := by
  obtain ⟨b, off, rfl, _, _⟩ := h.at1 (List.getElem?_eq_getElem (List.length_pos_iff.2 hne))
  refine ⟨_, rfl, fun j u hj => ?_⟩
  rw [i_flat, List.getElem?_map] at hj
  obtain ⟨x', hx', rfl⟩ := Option.map_eq_some_iff.1 hj
  obtain ⟨b2, off2, hA, _, hc⟩ := h.at1 hx'
  injection hA with hA
  injection hA with h1 h2
  subst h1 h2
  by_cases hj0 : j = 0
  · subst hj0; simpa [Addr.add] using hc
  · simpa [Addr.add, hj0] using hc
theorem rnE_len {N : Int} {p : List Int} {ws : List Nat} {G : Nat → Bool} : (ansL (tab N.toNat G) (rnE N p ws)).length ≤ 1000000000000000000 := by
  unfold ansL
  split
  · rename_i h
    unfold rnE at h
    cases hf : frm N ws with
    | false => rw [hf, if_neg (by decide)] at h; cases h
    | true => exact tab_len_le (frm_16 hf)
  · simp
set_option maxRecDepth 100000 in
set_option maxHeartbeats 8000000 in
theorem renames_walk (Na : Int) (Aa : Option Addr) (Ca : Nat) (wsa : List Nat) (Ap : Option Addr) (Lp Cp : Nat) (p : List Int) (w : World) (h : TbIn w ⟨Na, Aa, Ca, wsa⟩) (hp : IL w Ap Lp p) (hr : Lp * 8 ≤ 140737488351232) : Calls Try.prog 8 #[.agg #[.int .i64 Na, .slice Aa wsa.length Ca], .slice Ap Lp Cp] w fun e w' => e = .returned (.bool true) ∧ Below w.heap.size w w' := by
  obtain rfl := hp.len
  have H := Lib.hid h
  have hroom := h.room
  simp only at hroom
  have HI := Lib.hid hp
  have hP := fun A C A2 C2 w h hi => Renamed_any Na A C wsa A2 p.length C2 p w h hi (by omega)
  have hD := fun A C w h hi => docRenamed_any Na A C wsa Ap p.length Cp p w h hi (by omega)
  have hrl := rnE_len (N := Na) (p := p) (ws := wsa) (G := renF Na.toNat p wsa)
  unfold RetA at hP hD
  generalize ansN Na (rnE Na p wsa) = rn at hP hD
  generalize ansL (tab Na.toNat (renF Na.toNat p wsa)) (rnE Na p wsa) = rws at hP hD hrl
  generalize rnE Na p wsa = re at hP hD
  have HP := Lib.hid hP
  have HD := Lib.hid hD
  clear hP hD h hp
  go_enter Try.func8, Try.ntmps8
  go_upto_region 1 with fail
  refine wp_world fun w1 hw1 => ?_
  have hs1 : Same w w1 := by rw [hw1]; exact (Frm.refl _ _).alloc _
  have hBXa : Blk w1 (w.heap.size) 24 #[.int .i64 Na, .slice Aa wsa.length Ca] := by
    rw [hw1]
    have := (Blk.new w 24 #[.int .i64 Na, .slice Aa wsa.length Ca])
    simpa using this
  clear hw1
  have cXa0 : w1.cell? ⟨w.heap.size, 0, none⟩ = some (.int .i64 Na) := hBXa.cell 0
  have cXa1 : w1.cell? ⟨w.heap.size, 1, none⟩ = some (.slice Aa wsa.length Ca) := hBXa.cell 1
  have lXa := hBXa.lt
  have fXa0 := hBXa.free 0
  have fXa1 := hBXa.free 1
  have HBXa := Lib.hid hBXa
  have HS1 := Lib.hid hs1
  clear hs1 hBXa
  go_wp2_with (fail)
  refine (awake_any w1).mono ?_
  rintro e wr ⟨rfl, hs⟩
  replace HBXa := Lib.hid (HBXa.out.frm hs id)
  replace HS1 := Lib.hid (HS1.out.trans hs (fun _ _ h => h))
  clear hs cXa0 cXa1 fXa0 fXa1 lXa
  have cX0 : wr.cell? ⟨w.heap.size, 0, none⟩ = some (.int .i64 Na) := HBXa.out.cell 0
  have cX1 : wr.cell? ⟨w.heap.size, 1, none⟩ = some (.slice Aa wsa.length Ca) := HBXa.out.cell 1
  have lX := HBXa.out.lt
  go_upto_region 3 with fail
  refine wp_region_lit ?_
  refine wpList_read 1 ?_
  simp only [List.take_succ_cons, List.take_zero, List.drop_succ_cons, List.drop_zero]
  repeat (any_goals (first | go_big_quiet_step (fail) | quiet_step (fail)))
  refine wpQuiet_nil ?_
  refine wpList_plain rfl fun K hK => ?_
  go_simp
  refine (rtwin_any Na Aa Ca wsa wr (Sl.same H.out.ok.wl HS1.out) hroom).mono ?_
  rintro e wb ⟨At, Ct, rfl, hNT⟩
  have hs : Same wr wb := hNT.2.2
  have hot := hNT.1
  clear hNT cX0 cX1 lX
  refine hK _ _ ?_
  clear hK K
  refine wpList_plain rfl fun K hK => ?_
  go_simp
  refine hK _ _ ?_
  clear hK K
  refine list_world fun wc hwc => ?_
  have hsc : Same wb wc := by rw [hwc]; exact (Frm.refl _ _).alloc _
  have hO := Own.lit wb 3 icell (fun _ => rfl) [] (by simp) (cs := #[]) rfl
  rw [← hwc] at hO
  clear hwc
  have hotl := hot.block
  have hot := Own.frm hot hsc (fun _ _ => id)
  have hF0 : Fresh wr.heap.size (some ⟨wb.heap.size, 0, none⟩) := fresh_some hs.size
  have hs := hs.trans hsc (fun _ _ h => h)
  generalize wb.heap.size = L0 at *
  have hotb : ∀ a, At = some a → ¬ a.block = L0 := fun a ha h => by have := hotl a ha; omega
  refine wpList_read 1 ?_
  simp only [List.take_succ_cons, List.take_zero, List.drop_succ_cons, List.drop_zero]
  repeat (any_goals (first | go_big_quiet_step (fail) | quiet_step (fail)))
  refine wpQuiet_nil ?_
  refine wpList_plain rfl fun K hK => ?_
  refine Own.append_many (.tmp 14) (.tmp 15) _ rfl Try.underlying59 info_int rfl (by omega) rfl hO (fun _ => rfl) p Ap Cp rfl (fun hne => il_src (Sl.same HI.out (HS1.out.trans hs (fun _ _ h => h))) hne) (by simp [icell, Value.oneCell']) (by simp [maxLen]; omega) (by simp; omega) ?_
  intro Aq Cq wd hOq hg1 hat1
  refine hK _ _ ?_
  clear hK K
  simp only [List.nil_append] at hOq ⊢
  have hs : Same wr wd := hs.grown hg1 (fun g hg => .inr (hF0 g (ownBlock_row.1 hg)))
  have hot := Own.frm hot ((Frm.refl (fun b => b = L0) wc).grown hg1 (fun g hg => .inl (by obtain ⟨a, ha, rfl⟩ := ownBlock_row.1 hg; injection ha with ha; subst ha; rfl))) hotb
  have HQ := Lib.hid (Own.il hOq)
  clear hg1 hat1 hF0 hotb hOq hO hsc
  refine wpList_plain rfl fun K hK => ?_
  go_simp
  refine (HP.out At Ct Aq Cq wd ⟨hot.sl ucell_len, H.out.ok.small⟩ HQ.out).mono ?_
  rintro e we ⟨Au, Cu, rfl, hNT⟩
  refine hK _ _ ?_
  clear hK K
  have hs := hs.trans hNT.2.2 (fun _ _ h => h)
  have hop := hNT.1
  clear hNT hot
  have cX0 : we.cell? ⟨w.heap.size, 0, none⟩ = some (.int .i64 Na) := (HBXa.out.frm hs id).cell 0
  have cX1 : we.cell? ⟨w.heap.size, 1, none⟩ = some (.slice Aa wsa.length Ca) := (HBXa.out.frm hs id).cell 1
  have lX := (HBXa.out.frm hs id).lt
  go_wp2_with (fail)
  refine call_world fun wf hwf => ?_
  have hsv : Same we wf := by rw [hwf]; exact (Frm.refl _ _).alloc _
  have hop := Own.frm hop hsv (fun _ _ => id)
  have hs := hs.trans hsv (fun _ _ h => h)
  have hBp : Blk wf we.heap.size 24 #[.int .i64 rn, .slice Au rws.length Cu] := by rw [hwf]; exact Blk.new _ _ _
  clear hwf hsv cX0 cX1 lX
  generalize we.heap.size = Tp at *
  refine (HD.out Aa Ca wf ((H.out.ok).same (HS1.out.trans hs (fun _ _ h => h))) (Sl.same HI.out (HS1.out.trans hs (fun _ _ h => h)))).mono ?_
  rintro e wg ⟨Av, Cv, rfl, hNT⟩
  have hs := hs.trans hNT.2.2 (fun _ _ h => h)
  have hop := Own.frm hop hNT.2.2 (fun _ _ => id)
  have hBp := hBp.frm hNT.2.2 id
  have hoq := hNT.1
  clear hNT
  have hcp0 : wg.cell? ⟨Tp, 0, none⟩ = some (.int .i64 rn) := hBp.cell 0
  have hcp1 : wg.cell? ⟨Tp, 1, none⟩ = some (.slice Au rws.length Cu) := hBp.cell 1
  have hlp := hBp.lt
  clear hBp
  go_wp2_with (fail)
  refine call_world fun wh hwh => ?_
  have hsv : Same wg wh := by rw [hwh]; exact (Frm.refl _ _).alloc _
  have hop := Own.frm hop hsv (fun _ _ => id)
  have hoq := Own.frm hoq hsv (fun _ _ => id)
  have hs := hs.trans hsv (fun _ _ h => h)
  clear hwh hsv hcp0 hcp1 hlp
  refine (alike_any rn Au rws.length Cu rws re rn Av rws.length Cv rws re wh (hop.sl ucell_len) (hoq.sl ucell_len) hrl).mono ?_
  rintro e wi ⟨rfl, hsv⟩
  rw [sm_self, beq_self_eq_true, Bool.and_true]
  have hs := hs.trans hsv (fun _ _ h => h)
  clear hop hoq hsv
  go_wp2
  go_ret
  exact ⟨rfl, (HS1.out.trans hs (fun _ _ h => h)).to_below (Nat.le_refl _) (fun _ _ => id)⟩
end Go.Proofs.Ytlggmoghgoeiiaa


/- Truth tables: TruthShannon: the walk. -/
namespace Go.Proofs.Ytlggmoghgoeiiaa
open Go.RowKit Go.Tk

/-- a table that lies in a block -/
structure Tv (w : World) (T : Nat) (n : Int) (A : Option Addr) (C : Nat) (ws : List Nat) : Prop where
  blk : Blk w T 24 #[.int .i64 n, .slice A ws.length C]
  wl : WL w A ws.length ws
theorem Tv.same {w w' : World} {T : Nat} {n : Int} {A : Option Addr} {C : Nat} {ws : List Nat} (h : Tv w T n A C ws) (hs : Same w w') : Tv w' T n A C ws := ⟨h.blk.frm hs id, Sl.same h.wl hs⟩
theorem Tv.make {w w' : World} {n : Int} {A : Option Addr} {C : Nat} {ws : List Nat} (h : WL w A ws.length ws) (hw : w' = w.alloc (.cells #[.int .i64 n, .slice A ws.length C] 24)) : Tv w' w.heap.size n A C ws ∧ Same w w' := by
  subst hw
  have hs : Same w (w.alloc (.cells #[.int .i64 n, .slice A ws.length C] 24)) := (Frm.refl _ _).alloc _
  exact ⟨⟨Blk.new w _ _, Sl.same h hs⟩, hs⟩
theorem sup_bit {n V : Nat} {ws : List Nat} (hV : V < n) : (bsum (depB n ws) n).testBit V = !sm n n (tab n (hfF V true ws)) (tab n (hfF V false ws)) := by
  rw [bsum_bit, decide_eq_true hV, Bool.true_and]
  unfold depB sm
  generalize tab n (hfF V true ws) = a
  generalize tab n (hfF V false ws) = b
  by_cases he : a = b
  · subst he; simp
  · have he2 : ¬ b = a := fun h => he h.symm
    simp [he, he2]
theorem tab_small (n : Nat) (F : Nat → Bool) : Small (tab n F) := fun x hx => tab_lt x hx
set_option maxRecDepth 100000 in
set_option maxHeartbeats 16000000 in
theorem shannon_walk (Na : Int) (Aa : Option Addr) (Ca : Nat) (wsa : List Nat) (v : Int) (w : World) (h : TbIn w ⟨Na, Aa, Ca, wsa⟩) : Calls Try.prog 10 #[.agg #[.int .i64 Na, .slice Aa wsa.length Ca], .int .i64 v] w fun e w' => e = .returned (.bool true) ∧ Below w.heap.size w w' := by
  have H := Lib.hid h
  clear h
  cases hfr : frm Na wsa with
  | false =>
    have HFM := Lib.hid ((frm_one Na Aa Ca wsa).trans hfr)
    clear hfr
    go_enter Try.func10, Try.ntmps10
    go_upto_region 1 with fail
    refine wp_world fun w1 hw1 => ?_
    have hs1 : Same w w1 := by rw [hw1]; exact (Frm.refl _ _).alloc _
    have hBXa : Blk w1 (w.heap.size) 24 #[.int .i64 Na, .slice Aa wsa.length Ca] := by
      rw [hw1]
      have := (Blk.new w 24 #[.int .i64 Na, .slice Aa wsa.length Ca])
      simpa using this
    clear hw1
    have cXa0 : w1.cell? ⟨w.heap.size, 0, none⟩ = some (.int .i64 Na) := hBXa.cell 0
    have cXa1 : w1.cell? ⟨w.heap.size, 1, none⟩ = some (.slice Aa wsa.length Ca) := hBXa.cell 1
    have lXa := hBXa.lt
    have fXa0 := hBXa.free 0
    have fXa1 := hBXa.free 1
    have HBXa := Lib.hid hBXa
    have HS1 := Lib.hid hs1
    clear hs1 hBXa
    go_wp2_with (fail)
    refine (awake_any w1).mono ?_
    rintro e w2a ⟨rfl, hs13⟩
    replace HBXa := Lib.hid (HBXa.out.frm hs13 id)
    replace cXa0 : w2a.cell? ⟨w.heap.size, 0, none⟩ = some (.int .i64 Na) := HBXa.out.cell 0
    replace cXa1 : w2a.cell? ⟨w.heap.size, 1, none⟩ = some (.slice Aa wsa.length Ca) := HBXa.out.cell 1
    replace lXa := HBXa.out.lt
    replace fXa0 := HBXa.out.free 0
    replace fXa1 := HBXa.out.free 1
    replace HS1 := Lib.hid (HS1.out.trans hs13 (fun _ _ h => h))
    clear hs13
    have HOKa := Lib.hid (H.out.ok.same HS1.out)
    go_wp2_with (fail)
    refine call_world fun w2 hw2 => ?_
    have hs2 : Same w2a w2 := by rw [hw2]; exact (Frm.refl _ _).alloc _
    have hBL : Blk w2 w2a.heap.size 24 #[.int .i64 Na, .slice Aa wsa.length Ca] := by rw [hw2]; exact Blk.new _ _ _
    have htbs : Tbs w2 w2a.heap.size [⟨Na, Aa, Ca, wsa⟩] := by
      intro i t hi
      match i, hi with
      | 0, hi =>
        simp only [List.getElem?_cons_zero, Option.some.injEq] at hi
        subst hi
        exact ⟨hBL.lt, hBL.cell 0, hBL.cell 1⟩
      | i + 1, hi => simp at hi
    have hfc := good_any w2a.heap.size 1 1 [⟨Na, Aa, Ca, wsa⟩] w2 rfl (by decide) htbs (fun t ht => by
      simp only [List.mem_cons, List.not_mem_nil, or_false] at ht
      rcases ht with rfl
      · exact (HOKa.out).same hs2)
    rw [HFM.out] at hfc
    refine hfc.mono ?_
    clear hfc htbs hBL hw2
    rintro e w3 ⟨rfl, hs3⟩
    have hs23 : Same w2a w3 := hs2.trans hs3 (fun _ _ h => h)
    clear hs2 hs3
    replace HBXa := Lib.hid (HBXa.out.frm hs23 id)
    replace cXa0 : w3.cell? ⟨w.heap.size, 0, none⟩ = some (.int .i64 Na) := HBXa.out.cell 0
    replace cXa1 : w3.cell? ⟨w.heap.size, 1, none⟩ = some (.slice Aa wsa.length Ca) := HBXa.out.cell 1
    replace lXa := HBXa.out.lt
    replace fXa0 := HBXa.out.free 0
    replace fXa1 := HBXa.out.free 1
    replace HS1 := Lib.hid (HS1.out.trans hs23 (fun _ _ h => h))
    clear hs23
    go_wp2
    go_ret
    exact ⟨rfl, HS1.out.to_below (Nat.le_refl _) (fun _ _ => id)⟩
  | true =>
    obtain ⟨n, rfl, hform⟩ := frm_true hfr
    have HFM := Lib.hid ((frm_one n Aa Ca wsa).trans hfr)
    by_cases h0 : v < 0
    · clear hfr hform
      go_enter Try.func10, Try.ntmps10
      go_upto_region 1 with fail
      refine wp_world fun w1 hw1 => ?_
      have hs1 : Same w w1 := by rw [hw1]; exact (Frm.refl _ _).alloc _
      have hBXa : Blk w1 (w.heap.size) 24 #[.int .i64 n, .slice Aa wsa.length Ca] := by
        rw [hw1]
        have := (Blk.new w 24 #[.int .i64 n, .slice Aa wsa.length Ca])
        simpa using this
      clear hw1
      have cXa0 : w1.cell? ⟨w.heap.size, 0, none⟩ = some (.int .i64 n) := hBXa.cell 0
      have cXa1 : w1.cell? ⟨w.heap.size, 1, none⟩ = some (.slice Aa wsa.length Ca) := hBXa.cell 1
      have lXa := hBXa.lt
      have fXa0 := hBXa.free 0
      have fXa1 := hBXa.free 1
      have HBXa := Lib.hid hBXa
      have HS1 := Lib.hid hs1
      clear hs1 hBXa
      go_wp2_with (fail)
      refine (awake_any w1).mono ?_
      rintro e w2a ⟨rfl, hs13⟩
      replace HBXa := Lib.hid (HBXa.out.frm hs13 id)
      replace cXa0 : w2a.cell? ⟨w.heap.size, 0, none⟩ = some (.int .i64 n) := HBXa.out.cell 0
      replace cXa1 : w2a.cell? ⟨w.heap.size, 1, none⟩ = some (.slice Aa wsa.length Ca) := HBXa.out.cell 1
      replace lXa := HBXa.out.lt
      replace fXa0 := HBXa.out.free 0
      replace fXa1 := HBXa.out.free 1
      replace HS1 := Lib.hid (HS1.out.trans hs13 (fun _ _ h => h))
      clear hs13
      have HOKa := Lib.hid (H.out.ok.same HS1.out)
      go_wp2_with (fail)
      refine call_world fun w2 hw2 => ?_
      have hs2 : Same w2a w2 := by rw [hw2]; exact (Frm.refl _ _).alloc _
      have hBL : Blk w2 w2a.heap.size 24 #[.int .i64 n, .slice Aa wsa.length Ca] := by rw [hw2]; exact Blk.new _ _ _
      have htbs : Tbs w2 w2a.heap.size [⟨n, Aa, Ca, wsa⟩] := by
        intro i t hi
        match i, hi with
        | 0, hi =>
          simp only [List.getElem?_cons_zero, Option.some.injEq] at hi
          subst hi
          exact ⟨hBL.lt, hBL.cell 0, hBL.cell 1⟩
        | i + 1, hi => simp at hi
      have hfc := good_any w2a.heap.size 1 1 [⟨n, Aa, Ca, wsa⟩] w2 rfl (by decide) htbs (fun t ht => by
        simp only [List.mem_cons, List.not_mem_nil, or_false] at ht
        rcases ht with rfl
        · exact (HOKa.out).same hs2)
      rw [HFM.out] at hfc
      refine hfc.mono ?_
      clear hfc htbs hBL hw2
      rintro e w3 ⟨rfl, hs3⟩
      have hs23 : Same w2a w3 := hs2.trans hs3 (fun _ _ h => h)
      clear hs2 hs3
      replace HBXa := Lib.hid (HBXa.out.frm hs23 id)
      replace cXa0 : w3.cell? ⟨w.heap.size, 0, none⟩ = some (.int .i64 n) := HBXa.out.cell 0
      replace cXa1 : w3.cell? ⟨w.heap.size, 1, none⟩ = some (.slice Aa wsa.length Ca) := HBXa.out.cell 1
      replace lXa := HBXa.out.lt
      replace fXa0 := HBXa.out.free 0
      replace fXa1 := HBXa.out.free 1
      replace HS1 := Lib.hid (HS1.out.trans hs23 (fun _ _ h => h))
      clear hs23
      go_wp2
      go_ret
      exact ⟨rfl, HS1.out.to_below (Nat.le_refl _) (fun _ _ => id)⟩
    by_cases h1 : v ≥ (n : Int)
    · clear hfr hform
      go_enter Try.func10, Try.ntmps10
      go_upto_region 1 with fail
      refine wp_world fun w1 hw1 => ?_
      have hs1 : Same w w1 := by rw [hw1]; exact (Frm.refl _ _).alloc _
      have hBXa : Blk w1 (w.heap.size) 24 #[.int .i64 n, .slice Aa wsa.length Ca] := by
        rw [hw1]
        have := (Blk.new w 24 #[.int .i64 n, .slice Aa wsa.length Ca])
        simpa using this
      clear hw1
      have cXa0 : w1.cell? ⟨w.heap.size, 0, none⟩ = some (.int .i64 n) := hBXa.cell 0
      have cXa1 : w1.cell? ⟨w.heap.size, 1, none⟩ = some (.slice Aa wsa.length Ca) := hBXa.cell 1
      have lXa := hBXa.lt
      have fXa0 := hBXa.free 0
      have fXa1 := hBXa.free 1
      have HBXa := Lib.hid hBXa
      have HS1 := Lib.hid hs1
      clear hs1 hBXa
      go_wp2_with (fail)
      refine (awake_any w1).mono ?_
      rintro e w2a ⟨rfl, hs13⟩
      replace HBXa := Lib.hid (HBXa.out.frm hs13 id)
      replace cXa0 : w2a.cell? ⟨w.heap.size, 0, none⟩ = some (.int .i64 n) := HBXa.out.cell 0
      replace cXa1 : w2a.cell? ⟨w.heap.size, 1, none⟩ = some (.slice Aa wsa.length Ca) := HBXa.out.cell 1
      replace lXa := HBXa.out.lt
      replace fXa0 := HBXa.out.free 0
      replace fXa1 := HBXa.out.free 1
      replace HS1 := Lib.hid (HS1.out.trans hs13 (fun _ _ h => h))
      clear hs13
      have HOKa := Lib.hid (H.out.ok.same HS1.out)
      go_wp2_with (fail)
      refine call_world fun w2 hw2 => ?_
      have hs2 : Same w2a w2 := by rw [hw2]; exact (Frm.refl _ _).alloc _
      have hBL : Blk w2 w2a.heap.size 24 #[.int .i64 n, .slice Aa wsa.length Ca] := by rw [hw2]; exact Blk.new _ _ _
      have htbs : Tbs w2 w2a.heap.size [⟨n, Aa, Ca, wsa⟩] := by
        intro i t hi
        match i, hi with
        | 0, hi =>
          simp only [List.getElem?_cons_zero, Option.some.injEq] at hi
          subst hi
          exact ⟨hBL.lt, hBL.cell 0, hBL.cell 1⟩
        | i + 1, hi => simp at hi
      have hfc := good_any w2a.heap.size 1 1 [⟨n, Aa, Ca, wsa⟩] w2 rfl (by decide) htbs (fun t ht => by
        simp only [List.mem_cons, List.not_mem_nil, or_false] at ht
        rcases ht with rfl
        · exact (HOKa.out).same hs2)
      rw [HFM.out] at hfc
      refine hfc.mono ?_
      clear hfc htbs hBL hw2
      rintro e w3 ⟨rfl, hs3⟩
      have hs23 : Same w2a w3 := hs2.trans hs3 (fun _ _ h => h)
      clear hs2 hs3
      replace HBXa := Lib.hid (HBXa.out.frm hs23 id)
      replace cXa0 : w3.cell? ⟨w.heap.size, 0, none⟩ = some (.int .i64 n) := HBXa.out.cell 0
      replace cXa1 : w3.cell? ⟨w.heap.size, 1, none⟩ = some (.slice Aa wsa.length Ca) := HBXa.out.cell 1
      replace lXa := HBXa.out.lt
      replace fXa0 := HBXa.out.free 0
      replace fXa1 := HBXa.out.free 1
      replace HS1 := Lib.hid (HS1.out.trans hs23 (fun _ _ h => h))
      clear hs23
      go_wp2
      go_ret
      exact ⟨rfl, HS1.out.to_below (Nat.le_refl _) (fun _ _ => id)⟩
    obtain ⟨V, rfl⟩ : ∃ V : Nat, v = V := ⟨v.toNat, by omega⟩
    have hV : V < n := by omega
    have hn := hform.n16
    have hsm := H.out.ok.small
    simp only at hsm
    have hoe : ofE n V wsa = 0 := by unfold ofE; rw [hfr, if_pos rfl, if_neg (by omega)]
    have hve : varE n V = 0 := by unfold varE; rw [show cntE n = 0 by unfold cntE; rw [if_neg (by omega), if_neg (by omega)], if_neg (by simp), if_neg (by omega)]
    have hC := fun b w h => Cofactor_any n Aa Ca wsa V b w h
    have hE := fun w h => Exists_any n Aa Ca wsa V w h
    have hX := fun w => Var_any n V w
    have hI := fun A1 C1 A2 C2 A3 C3 w h1 h2 h3 => Ite_any n A1 C1 (tab n (varF V)) n A2 C2 (tab n (hfF V true wsa)) n A3 C3 (tab n (hfF V false wsa)) w h1 h2 h3
    have hft : ∀ (F : Nat → Bool), frm n (tab n F) = true := fun F => frm_nat.2 (tab_form hn)
    simp only [hoe] at hC
    rw [hoe] at hE
    rw [hve] at hX
    have hfm : ∀ (A1 A2 A3 : Option Addr) (C1 C2 C3 : Nat), fm [⟨n, A1, C1, tab n (varF V)⟩, ⟨n, A2, C2, tab n (hfF V true wsa)⟩, ⟨n, A3, C3, tab n (hfF V false wsa)⟩] = true := fun _ _ _ _ _ _ => by simp [fm, Tb.frm, hft]
    simp only [hfm, show fmE true = 0 from rfl] at hI
    unfold RetA at hC hE hX hI
    have hCt := hC true
    have hCf := hC false
    rw [show ansN n 0 = n from rfl] at hE hX
    simp only [show ansN n 0 = n from rfl] at hCt hCf hI
    rw [show ansL (tab (n : Int).toNat (exF (V : Int).toNat wsa)) 0 = tab n (exF V wsa) from rfl] at hE
    rw [show ansL (tab (n : Int).toNat (varF (V : Int).toNat)) 0 = tab n (varF V) from rfl] at hX
    simp only [show ansL (tab (n : Int).toNat (hfF (V : Int).toNat true wsa)) 0 = tab n (hfF V true wsa) from rfl] at hCt
    simp only [show ansL (tab (n : Int).toNat (hfF (V : Int).toNat false wsa)) 0 = tab n (hfF V false wsa) from rfl] at hCf
    simp only [show ansL (tab (n : Int).toNat (iteF (tab n (varF V)) (tab n (hfF V true wsa)) (tab n (hfF V false wsa)))) 0 = tab n (iteF (tab n (varF V)) (tab n (hfF V true wsa)) (tab n (hfF V false wsa))) from rfl, shan_ite hform hsm] at hI
    have hT2 := fun A1 C1 A2 C2 w h1 h2 => twoT_any n 14 A1 C1 (tab n (hfF V true wsa)) A2 C2 (tab n (hfF V false wsa)) w (by omega) h1 (tab_form hn) h2 (tab_form hn)
    simp only [shan_or] at hT2
    have hSa := fun A C w h => Support_any n A C wsa w h
    have hSo := fun A C w h => Support_any n A C (tab n (hfF V true wsa)) w h
    have hSe := fun A C w h => Support_any n A C (tab n (exF V wsa)) w h
    have hNa := fun A C w h => Count_any n A C wsa w h
    have hNo := fun A C w h => Count_any n A C (tab n (hfF V true wsa)) w h
    have hNz := fun A C w h => Count_any n A C (tab n (hfF V false wsa)) w h
    rw [hfr] at hSa hNa
    rw [hft] at hSo hSe hNo hNz
    rw [if_pos rfl] at hNa hNo hNz
    rw [show fmE true = 0 from rfl] at hSa hSo hSe hNa hNo hNz
    have es : supN n wsa = bsum (depB n wsa) n := by unfold supN; rw [hfr, if_pos rfl]; rfl
    have eo : supN n (tab n (hfF V true wsa)) = bsum (depB n (tab n (hfF V true wsa))) n := by unfold supN; rw [hft, if_pos rfl]; rfl
    have ee : supN n (tab n (exF V wsa)) = bsum (depB n (tab n (exF V wsa))) n := by unfold supN; rw [hft, if_pos rfl]; rfl
    have hcnt := shan_cnt (ws := wsa) hV
    rw [← popS_form (tab_form (F := hfF V true wsa) hn), ← popS_form (tab_form (F := hfF V false wsa) hn), ← popS_form hform] at hcnt
    have hm1 := mask_sub (F := depB n (tab n (hfF V true wsa))) (G := depB n wsa) (n := n) (V := V) (by omega) (fun u hu h => dep_cof hV hu h)
    have hm2 := mask_sub (F := depB n (tab n (exF V wsa))) (G := depB n wsa) (n := n) (V := V) (by omega) (fun u hu h => dep_ex hV hu h)
    rw [← es, ← eo] at hm1
    rw [← es, ← ee] at hm2
    have hsb : (supN n wsa).testBit V = !sm n n (tab n (hfF V true wsa)) (tab n (hfF V false wsa)) := by rw [es]; exact sup_bit hV
    have ls : supN n wsa < 18446744073709551616 := by rw [es]; exact Nat.lt_of_lt_of_le (bsum_lt _ n) (show 2 ^ n ≤ 2 ^ 64 from Nat.pow_le_pow_right (by omega) (by omega))
    have lo : supN n (tab n (hfF V true wsa)) < 18446744073709551616 := by rw [eo]; exact Nat.lt_of_lt_of_le (bsum_lt _ n) (show 2 ^ n ≤ 2 ^ 64 from Nat.pow_le_pow_right (by omega) (by omega))
    have le : supN n (tab n (exF V wsa)) < 18446744073709551616 := by rw [ee]; exact Nat.lt_of_lt_of_le (bsum_lt _ n) (show 2 ^ n ≤ 2 ^ 64 from Nat.pow_le_pow_right (by omega) (by omega))
    have lc : popS wsa wsa.length ≤ 65536 := by rw [popS_form hform]; exact Nat.le_trans (cntB_le _ _) (pow_le16 hn)
    have hwx := tab_small n (varF V)
    have hwo := tab_small n (hfF V true wsa)
    have hwz := tab_small n (hfF V false wsa)
    have hwe := tab_small n (exF V wsa)
    have llx := tab_len_le (F := varF V) hn
    have llo := tab_len_le (F := hfF V true wsa) hn
    have lle := tab_len_le (F := exF V wsa) hn
    have lla : wsa.length ≤ 1000000000000000000 := by rw [hform.len]; have := nw_le hn; omega
    have hSM := fun A1 C1 A2 C2 w h1 h2 => same_any n A1 wsa.length C1 wsa n A2 wsa.length C2 wsa w h1 h2 lla
    have hSN := fun A1 C1 A2 C2 w h1 h2 => same_any n A1 (tab n (exF V wsa)).length C1 (tab n (exF V wsa)) n A2 (tab n (exF V wsa)).length C2 (tab n (exF V wsa)) w h1 h2 lle
    have hSO := fun A1 C1 A2 C2 w h1 h2 => same_any n A1 (tab n (hfF V true wsa)).length C1 (tab n (hfF V true wsa)) n A2 (tab n (hfF V false wsa)).length C2 (tab n (hfF V false wsa)) w h1 h2 llo
    simp only [sm_self] at hSM hSN
    have hp15 : 2 ^ V ≤ 2 ^ 15 := Nat.pow_le_pow_right (by omega) (by omega)
    rw [Nat.mod_eq_of_lt (show 2 ^ V < 18446744073709551616 by omega)] at hm1 hm2
    have hdv : ((supN n wsa : Nat) : Int) / 2 ^ V = ((supN n wsa / 2 ^ V : Nat) : Int) := by rw [pow_int]; exact (Int.natCast_ediv _ _).symm
    have hbit := and1_bit (supN n wsa) V ls
    rw [hsb] at hbit
    have hdl : supN n wsa / 2 ^ V ≤ supN n wsa := Nat.div_le_self _ _
    have hxr := xor_not (x := 2 ^ V) (by omega)
    unfold notN at hxr
    have hsw : IntKind.u64.wrap ((2 : Int) ^ V) = ((2 ^ V : Nat) : Int) := by
      rw [pow_int]
      generalize 2 ^ V = p at hp15
      exact IntWalk.u64_in _ (by omega)
    rw [← pow_int] at hxr
    obtain ⟨rest, hrest⟩ : ∃ r, 18446744073709551615 - 2 ^ V = r := ⟨_, rfl⟩
    rw [hrest] at hm1 hm2 hxr
    have hrl : rest < 18446744073709551616 := by rw [← hrest]; exact Nat.lt_of_le_of_lt (Nat.sub_le _ _) (by decide)
    generalize tab n (hfF V true wsa) = wo at *
    generalize tab n (hfF V false wsa) = wz at *
    generalize tab n (exF V wsa) = we at *
    generalize tab n (varF V) = wx at *
    generalize popS wsa wsa.length = pa at *
    generalize popS wo wo.length = po at *
    generalize popS wz wz.length = pz at *
    generalize supN n wsa = sa at *
    generalize supN n wo = so at *
    generalize supN n we = se at *
    have u1 := u64_and_nat sa rest ls hrl
    have hal : sa &&& rest < 18446744073709551616 := Nat.lt_of_le_of_lt Nat.and_le_left ls
    have u2 := u64_andNot_nat so (sa &&& rest) lo hal
    have u3 := u64_andNot_nat se (sa &&& rest) le hal
    rw [hm1] at u2
    rw [hm2] at u3
    rw [show (((0 : Nat)) : Int) = 0 from rfl] at u2 u3
    have q1 : IntKind.u64.wrap (2 * (pa : Int)) = ((2 * pa : Nat) : Int) := by rw [IntWalk.u64_in _ (by omega)]; simp
    have q2 : IntKind.u64.wrap ((po : Int) + pz) = ((2 * pa : Nat) : Int) := by rw [IntWalk.u64_in _ (by omega), ← hcnt]; simp
    generalize sa &&& rest = sr at *
    generalize sa / 2 ^ V = sq at *
    obtain ⟨rs, hrs⟩ : ∃ r, sm n n wo wz = r := ⟨_, rfl⟩
    have hSO2 := hSO
    simp only [hrs] at hSO2
    rw [hrs] at hbit
    have HBT := Lib.hid hbit
    have hn0 : (0 : Int) ≤ n := by omega
    have hV0 : (0 : Int) ≤ V := by omega
    have hVm : min V 64 = V := by omega
    have HCT := Lib.hid hCt
    have HCF := Lib.hid hCf
    have HE := Lib.hid hE
    have HX := Lib.hid hX
    have HI := Lib.hid hI
    have HT2 := Lib.hid hT2
    have HSA := Lib.hid hSa
    have HSO := Lib.hid hSo
    have HSE := Lib.hid hSe
    have HNA := Lib.hid hNa
    have HNO := Lib.hid hNo
    have HNZ := Lib.hid hNz
    have HSM := Lib.hid hSM
    have HSN := Lib.hid hSN
    have HSO2 := Lib.hid hSO2
    have HWX := Lib.hid hwx
    have HWO := Lib.hid hwo
    have HWZ := Lib.hid hwz
    have HWE := Lib.hid hwe
    have HU := Lib.hid (And.intro hdv (And.intro hxr (And.intro hsw (And.intro u1 (And.intro u2 (And.intro u3 (And.intro q1 q2)))))))
    clear hfr hform hsm hoe hve hC hCt hCf hE hX hI hft hfm hT2 hSa hSo hSe hNa hNo hNz es eo ee hcnt hm1 hm2 hsb ls lo le lc hwx hwo hwz hwe llx llo lle lla hSM hSN hSO hSO2 hp15 hdv hbit hdl hxr hsw hrest hrl u1 u2 u3 hal q1 q2 hrs hn
    go_enter Try.func10, Try.ntmps10
    go_upto_region 1 with fail
    refine wp_world fun w1 hw1 => ?_
    have hs1 : Same w w1 := by rw [hw1]; exact (Frm.refl _ _).alloc _
    have hBXa : Blk w1 (w.heap.size) 24 #[.int .i64 n, .slice Aa wsa.length Ca] := by
      rw [hw1]
      have := (Blk.new w 24 #[.int .i64 n, .slice Aa wsa.length Ca])
      simpa using this
    clear hw1
    have cXa0 : w1.cell? ⟨w.heap.size, 0, none⟩ = some (.int .i64 n) := hBXa.cell 0
    have cXa1 : w1.cell? ⟨w.heap.size, 1, none⟩ = some (.slice Aa wsa.length Ca) := hBXa.cell 1
    have lXa := hBXa.lt
    have fXa0 := hBXa.free 0
    have fXa1 := hBXa.free 1
    have HBXa := Lib.hid hBXa
    have HS1 := Lib.hid hs1
    clear hs1 hBXa
    go_wp2_with (fail)
    refine (awake_any w1).mono ?_
    rintro e w2a ⟨rfl, hs13⟩
    replace HBXa := Lib.hid (HBXa.out.frm hs13 id)
    replace cXa0 : w2a.cell? ⟨w.heap.size, 0, none⟩ = some (.int .i64 n) := HBXa.out.cell 0
    replace cXa1 : w2a.cell? ⟨w.heap.size, 1, none⟩ = some (.slice Aa wsa.length Ca) := HBXa.out.cell 1
    replace lXa := HBXa.out.lt
    replace fXa0 := HBXa.out.free 0
    replace fXa1 := HBXa.out.free 1
    replace HS1 := Lib.hid (HS1.out.trans hs13 (fun _ _ h => h))
    clear hs13
    have HOKa := Lib.hid (H.out.ok.same HS1.out)
    go_wp2_with (fail)
    refine call_world fun w2 hw2 => ?_
    have hs2 : Same w2a w2 := by rw [hw2]; exact (Frm.refl _ _).alloc _
    have hBL : Blk w2 w2a.heap.size 24 #[.int .i64 n, .slice Aa wsa.length Ca] := by rw [hw2]; exact Blk.new _ _ _
    have htbs : Tbs w2 w2a.heap.size [⟨n, Aa, Ca, wsa⟩] := by
      intro i t hi
      match i, hi with
      | 0, hi =>
        simp only [List.getElem?_cons_zero, Option.some.injEq] at hi
        subst hi
        exact ⟨hBL.lt, hBL.cell 0, hBL.cell 1⟩
      | i + 1, hi => simp at hi
    have hfc := good_any w2a.heap.size 1 1 [⟨n, Aa, Ca, wsa⟩] w2 rfl (by decide) htbs (fun t ht => by
      simp only [List.mem_cons, List.not_mem_nil, or_false] at ht
      rcases ht with rfl
      · exact (HOKa.out).same hs2)
    rw [HFM.out] at hfc
    refine hfc.mono ?_
    clear hfc htbs hBL hw2
    rintro e w3 ⟨rfl, hs3⟩
    have hs23 : Same w2a w3 := hs2.trans hs3 (fun _ _ h => h)
    clear hs2 hs3
    replace HBXa := Lib.hid (HBXa.out.frm hs23 id)
    replace cXa0 : w3.cell? ⟨w.heap.size, 0, none⟩ = some (.int .i64 n) := HBXa.out.cell 0
    replace cXa1 : w3.cell? ⟨w.heap.size, 1, none⟩ = some (.slice Aa wsa.length Ca) := HBXa.out.cell 1
    replace lXa := HBXa.out.lt
    replace fXa0 := HBXa.out.free 0
    replace fXa1 := HBXa.out.free 1
    replace HS1 := Lib.hid (HS1.out.trans hs23 (fun _ _ h => h))
    clear hs23
    have hqX : Tv w3 w.heap.size n Aa Ca wsa := ⟨HBXa.out, Sl.same H.out.ok.wl HS1.out⟩
    clear cXa0 cXa1 fXa0 fXa1 lXa HBXa
    have cX0 : w3.cell? ⟨w.heap.size, 0, none⟩ = some (.int .i64 n) := hqX.blk.cell 0
    have cX1 : w3.cell? ⟨w.heap.size, 1, none⟩ = some (.slice Aa wsa.length Ca) := hqX.blk.cell 1
    have lX := hqX.blk.lt
    go_wp2_with (fail)
    refine (HCT.out w3 (H.out.ok.same HS1.out)).mono ?_
    rintro e wa1 ⟨Ao, Co, rfl, hN⟩
    have hs := hN.2.2
    have ho := hN.1.sl ucell_len
    clear hN
    replace HS1 := Lib.hid (HS1.out.trans hs (fun _ _ h => h))
    replace hqX := hqX.same hs
    clear hs
    clear cX0 cX1 lX
    have cX0 : wa1.cell? ⟨w.heap.size, 0, none⟩ = some (.int .i64 n) := hqX.blk.cell 0
    have cX1 : wa1.cell? ⟨w.heap.size, 1, none⟩ = some (.slice Aa wsa.length Ca) := hqX.blk.cell 1
    have lX := hqX.blk.lt
    go_wp2_with (fail)
    refine call_world fun wb1 hwb1 => ?_
    obtain ⟨hqn, hsv⟩ := Tv.make ho hwb1
    clear cX0 cX1 lX
    replace HS1 := Lib.hid (HS1.out.trans hsv (fun _ _ h => h))
    replace hqX := hqX.same hsv
    obtain ⟨To, hTe⟩ : ∃ b, wa1.heap.size = b := ⟨_, rfl⟩
    rw [hTe] at hqn ⊢
    have hqo := hqn
    clear hqn hwb1 hsv hTe ho
    refine (HCF.out wb1 (H.out.ok.same HS1.out)).mono ?_
    rintro e wa2 ⟨Az, Cz, rfl, hN⟩
    have hs := hN.2.2
    have ho := hN.1.sl ucell_len
    clear hN
    replace HS1 := Lib.hid (HS1.out.trans hs (fun _ _ h => h))
    replace hqX := hqX.same hs
    replace hqo := hqo.same hs
    clear hs
    have cX0 : wa2.cell? ⟨w.heap.size, 0, none⟩ = some (.int .i64 n) := hqX.blk.cell 0
    have cX1 : wa2.cell? ⟨w.heap.size, 1, none⟩ = some (.slice Aa wsa.length Ca) := hqX.blk.cell 1
    have lX := hqX.blk.lt
    go_wp2_with (fail)
    refine call_world fun wb2 hwb2 => ?_
    obtain ⟨hqn, hsv⟩ := Tv.make ho hwb2
    clear cX0 cX1 lX
    replace HS1 := Lib.hid (HS1.out.trans hsv (fun _ _ h => h))
    replace hqX := hqX.same hsv
    replace hqo := hqo.same hsv
    obtain ⟨Tz, hTe⟩ : ∃ b, wa2.heap.size = b := ⟨_, rfl⟩
    rw [hTe] at hqn ⊢
    have hqz := hqn
    clear hqn hwb2 hsv hTe ho
    refine (HX.out wb2).mono ?_
    rintro e wa3 ⟨Ax, Cx, rfl, hN⟩
    have hs := hN.2.2
    have ho := hN.1.sl ucell_len
    clear hN
    replace HS1 := Lib.hid (HS1.out.trans hs (fun _ _ h => h))
    replace hqX := hqX.same hs
    replace hqo := hqo.same hs
    replace hqz := hqz.same hs
    clear hs
    have co0 : wa3.cell? ⟨To, 0, none⟩ = some (.int .i64 n) := hqo.blk.cell 0
    have co1 : wa3.cell? ⟨To, 1, none⟩ = some (.slice Ao wo.length Co) := hqo.blk.cell 1
    have lo := hqo.blk.lt
    have cz0 : wa3.cell? ⟨Tz, 0, none⟩ = some (.int .i64 n) := hqz.blk.cell 0
    have cz1 : wa3.cell? ⟨Tz, 1, none⟩ = some (.slice Az wz.length Cz) := hqz.blk.cell 1
    have lz := hqz.blk.lt
    go_wp2_with (fail)
    refine call_world fun wb3 hwb3 => ?_
    obtain ⟨hqn, hsv⟩ := Tv.make ho hwb3
    clear co0 co1 lo cz0 cz1 lz
    replace HS1 := Lib.hid (HS1.out.trans hsv (fun _ _ h => h))
    replace hqX := hqX.same hsv
    replace hqo := hqo.same hsv
    replace hqz := hqz.same hsv
    obtain ⟨Tx, hTe⟩ : ∃ b, wa3.heap.size = b := ⟨_, rfl⟩
    rw [hTe] at hqn ⊢
    have hqx := hqn
    clear hqn hwb3 hsv hTe ho
    refine (HI.out Ax Cx Ao Co Az Cz wb3 ⟨hqx.wl, HWX.out⟩ ⟨hqo.wl, HWO.out⟩ ⟨hqz.wl, HWZ.out⟩).mono ?_
    rintro e wa4 ⟨Ai, Ci, rfl, hN⟩
    have hs := hN.2.2
    have ho := hN.1.sl ucell_len
    clear hN
    replace HS1 := Lib.hid (HS1.out.trans hs (fun _ _ h => h))
    replace hqX := hqX.same hs
    replace hqo := hqo.same hs
    replace hqz := hqz.same hs
    replace hqx := hqx.same hs
    clear hs
    have cX0 : wa4.cell? ⟨w.heap.size, 0, none⟩ = some (.int .i64 n) := hqX.blk.cell 0
    have cX1 : wa4.cell? ⟨w.heap.size, 1, none⟩ = some (.slice Aa wsa.length Ca) := hqX.blk.cell 1
    have lX := hqX.blk.lt
    go_wp2_with (fail)
    refine call_world fun wb4 hwb4 => ?_
    obtain ⟨hqn, hsv⟩ := Tv.make ho hwb4
    clear cX0 cX1 lX
    replace HS1 := Lib.hid (HS1.out.trans hsv (fun _ _ h => h))
    replace hqX := hqX.same hsv
    replace hqo := hqo.same hsv
    replace hqz := hqz.same hsv
    replace hqx := hqx.same hsv
    obtain ⟨Ti, hTe⟩ : ∃ b, wa4.heap.size = b := ⟨_, rfl⟩
    rw [hTe] at hqn ⊢
    have hqi := hqn
    clear hqn hwb4 hsv hTe ho
    refine (HE.out wb4 (H.out.ok.same HS1.out)).mono ?_
    rintro e wa5 ⟨Ae, Ce, rfl, hN⟩
    have hs := hN.2.2
    have ho := hN.1.sl ucell_len
    clear hN
    replace HS1 := Lib.hid (HS1.out.trans hs (fun _ _ h => h))
    replace hqX := hqX.same hs
    replace hqo := hqo.same hs
    replace hqz := hqz.same hs
    replace hqx := hqx.same hs
    replace hqi := hqi.same hs
    clear hs
    go_upto_region 10 with fail
    refine wp_world fun wb5 hwb5 => ?_
    obtain ⟨hqn, hsv⟩ := Tv.make ho hwb5
    replace HS1 := Lib.hid (HS1.out.trans hsv (fun _ _ h => h))
    replace hqX := hqX.same hsv
    replace hqo := hqo.same hsv
    replace hqz := hqz.same hsv
    replace hqx := hqx.same hsv
    replace hqi := hqi.same hsv
    obtain ⟨Te, hTe⟩ : ∃ b, wa5.heap.size = b := ⟨_, rfl⟩
    rw [hTe] at hqn ⊢
    have hqe := hqn
    clear hqn hwb5 hsv hTe ho
    refine wp_phS (fun _ => False) [([0, 1, 2, 3, 4, 5, 6, 7, 8, 9, 10, 11, 12, 13, 14, 15, 16, 17, 18, 19, 20], 21), ([22, 23, 24, 25, 26, 27], 28), ([], 29), ([30], 31)] (by kernel_rfl) (by kernel_rfl) ?_
    simp only [wpPh, pick, List.map_cons, List.map_nil, List.getD_cons_zero, List.getD_cons_succ]
    have cX0 : wb5.cell? ⟨w.heap.size, 0, none⟩ = some (.int .i64 n) := hqX.blk.cell 0
    have cX1 : wb5.cell? ⟨w.heap.size, 1, none⟩ = some (.slice Aa wsa.length Ca) := hqX.blk.cell 1
    have lX := hqX.blk.lt
    have co0 : wb5.cell? ⟨To, 0, none⟩ = some (.int .i64 n) := hqo.blk.cell 0
    have co1 : wb5.cell? ⟨To, 1, none⟩ = some (.slice Ao wo.length Co) := hqo.blk.cell 1
    have lo := hqo.blk.lt
    have cz0 : wb5.cell? ⟨Tz, 0, none⟩ = some (.int .i64 n) := hqz.blk.cell 0
    have cz1 : wb5.cell? ⟨Tz, 1, none⟩ = some (.slice Az wz.length Cz) := hqz.blk.cell 1
    have lz := hqz.blk.lt
    have ci0 : wb5.cell? ⟨Ti, 0, none⟩ = some (.int .i64 n) := hqi.blk.cell 0
    have ci1 : wb5.cell? ⟨Ti, 1, none⟩ = some (.slice Ai wsa.length Ci) := hqi.blk.cell 1
    have li := hqi.blk.lt
    have ce0 : wb5.cell? ⟨Te, 0, none⟩ = some (.int .i64 n) := hqe.blk.cell 0
    have ce1 : wb5.cell? ⟨Te, 1, none⟩ = some (.slice Ae we.length Ce) := hqe.blk.cell 1
    have le := hqe.blk.lt
    have hs : Same wb5 wb5.drew := (Frm.refl _ _).drew
    repeat (any_goals (first | go_big_quiet_step (fail) | quiet_step (fail)))
    refine wpQuiet_nil ?_
    refine effStep_on (by rfl) fun K hK => ?_
    go_simp
    refine (HSM.out Ai Ci Aa Ca _ (hqi.same hs).wl (hqX.same hs).wl).mono ?_
    rintro e u ⟨rfl, hsz⟩
    have hs := hs.trans hsz (fun _ _ h => h)
    refine hK _ _ (Lat.mk_ (Frm.mono hs (fun _ _ h => h.elim))) ?_
    clear hK K
    clear hsz
    repeat (any_goals (first | go_big_quiet_step (fail) | quiet_step (fail)))
    refine wpQuiet_nil ?_
    refine effStep_on (by rfl) fun K hK => ?_
    go_simp
    refine (HT2.out Ao Co Az Cz _ ⟨(hqo.same hs).wl, HWO.out⟩ ⟨(hqz.same hs).wl, HWZ.out⟩).mono ?_
    rintro e u ⟨At, Ct, rfl, hN⟩
    have hs := hs.trans hN.2.2 (fun _ _ h => h)
    have hot := hN.1.sl ucell_len
    refine hK _ _ (Lat.mk_ (Frm.mono hs (fun _ _ h => h.elim))) ?_
    clear hK K
    clear hN
    repeat (any_goals (first | go_big_quiet_step (fail) | quiet_step (fail)))
    refine wpQuiet_nil ?_
    refine effStep_on (by rfl) fun K hK => ?_
    go_simp
    refine (HSN.out Ae Ce At Ct _ (hqe.same hs).wl hot).mono ?_
    rintro e u ⟨rfl, hsz⟩
    have hs := hs.trans hsz (fun _ _ h => h)
    refine hK _ _ (Lat.mk_ (Frm.mono hs (fun _ _ h => h.elim))) ?_
    clear hK K
    clear hsz hot
    clear cX0 cX1 lX co0 co1 lo cz0 cz1 lz ci0 ci1 li ce0 ce1 le
    repeat (any_goals (first | go_big_quiet_step (fail) | quiet_step (fail)))
    refine wpQuiet_nil ?_
    replace HS1 := Lib.hid (HS1.out.trans hs (fun _ _ h => h))
    replace hqX := hqX.same hs
    replace hqo := hqo.same hs
    replace hqz := hqz.same hs
    replace hqx := hqx.same hs
    replace hqi := hqi.same hs
    replace hqe := hqe.same hs
    clear hs
    have cX0 : u.cell? ⟨w.heap.size, 0, none⟩ = some (.int .i64 n) := hqX.blk.cell 0
    have cX1 : u.cell? ⟨w.heap.size, 1, none⟩ = some (.slice Aa wsa.length Ca) := hqX.blk.cell 1
    have lX := hqX.blk.lt
    go_wp2_with (fail)
    refine (HSA.out Aa Ca u (H.out.ok.same HS1.out)).mono ?_
    rintro e v1 ⟨rfl, hs⟩
    clear cX0 cX1 lX
    replace HS1 := Lib.hid (HS1.out.trans hs (fun _ _ h => h))
    replace hqX := hqX.same hs
    replace hqo := hqo.same hs
    replace hqz := hqz.same hs
    replace hqx := hqx.same hs
    replace hqi := hqi.same hs
    replace hqe := hqe.same hs
    clear hs
    have co0 : v1.cell? ⟨To, 0, none⟩ = some (.int .i64 n) := hqo.blk.cell 0
    have co1 : v1.cell? ⟨To, 1, none⟩ = some (.slice Ao wo.length Co) := hqo.blk.cell 1
    have lo := hqo.blk.lt
    go_wp2_with (fail)
    refine (HSO.out Ao Co v1 ⟨hqo.wl, HWO.out⟩).mono ?_
    rintro e v2 ⟨rfl, hs⟩
    clear co0 co1 lo
    replace HS1 := Lib.hid (HS1.out.trans hs (fun _ _ h => h))
    replace hqX := hqX.same hs
    replace hqo := hqo.same hs
    replace hqz := hqz.same hs
    replace hqx := hqx.same hs
    replace hqi := hqi.same hs
    replace hqe := hqe.same hs
    clear hs
    have ce0 : v2.cell? ⟨Te, 0, none⟩ = some (.int .i64 n) := hqe.blk.cell 0
    have ce1 : v2.cell? ⟨Te, 1, none⟩ = some (.slice Ae we.length Ce) := hqe.blk.cell 1
    have le := hqe.blk.lt
    go_wp2_with (fail)
    refine (HSE.out Ae Ce v2 ⟨hqe.wl, HWE.out⟩).mono ?_
    rintro e v3 ⟨rfl, hs⟩
    clear ce0 ce1 le
    replace HS1 := Lib.hid (HS1.out.trans hs (fun _ _ h => h))
    replace hqX := hqX.same hs
    replace hqo := hqo.same hs
    replace hqz := hqz.same hs
    replace hqx := hqx.same hs
    replace hqi := hqi.same hs
    replace hqe := hqe.same hs
    clear hs
    have cX0 : v3.cell? ⟨w.heap.size, 0, none⟩ = some (.int .i64 n) := hqX.blk.cell 0
    have cX1 : v3.cell? ⟨w.heap.size, 1, none⟩ = some (.slice Aa wsa.length Ca) := hqX.blk.cell 1
    have lX := hqX.blk.lt
    go_wp2_with (fail)
    refine (HNA.out Aa Ca v3 (H.out.ok.same HS1.out)).mono ?_
    rintro e v4 ⟨rfl, hs⟩
    clear cX0 cX1 lX
    replace HS1 := Lib.hid (HS1.out.trans hs (fun _ _ h => h))
    replace hqX := hqX.same hs
    replace hqo := hqo.same hs
    replace hqz := hqz.same hs
    replace hqx := hqx.same hs
    replace hqi := hqi.same hs
    replace hqe := hqe.same hs
    clear hs
    have co0 : v4.cell? ⟨To, 0, none⟩ = some (.int .i64 n) := hqo.blk.cell 0
    have co1 : v4.cell? ⟨To, 1, none⟩ = some (.slice Ao wo.length Co) := hqo.blk.cell 1
    have lo := hqo.blk.lt
    go_wp2_with (fail)
    refine (HNO.out Ao Co v4 ⟨hqo.wl, HWO.out⟩).mono ?_
    rintro e v5 ⟨rfl, hs⟩
    clear co0 co1 lo
    replace HS1 := Lib.hid (HS1.out.trans hs (fun _ _ h => h))
    replace hqX := hqX.same hs
    replace hqo := hqo.same hs
    replace hqz := hqz.same hs
    replace hqx := hqx.same hs
    replace hqi := hqi.same hs
    replace hqe := hqe.same hs
    clear hs
    have cz0 : v5.cell? ⟨Tz, 0, none⟩ = some (.int .i64 n) := hqz.blk.cell 0
    have cz1 : v5.cell? ⟨Tz, 1, none⟩ = some (.slice Az wz.length Cz) := hqz.blk.cell 1
    have lz := hqz.blk.lt
    go_wp2_with (fail)
    refine (HNZ.out Az Cz v5 ⟨hqz.wl, HWZ.out⟩).mono ?_
    rintro e v6 ⟨rfl, hs⟩
    clear cz0 cz1 lz
    replace HS1 := Lib.hid (HS1.out.trans hs (fun _ _ h => h))
    replace hqX := hqX.same hs
    replace hqo := hqo.same hs
    replace hqz := hqz.same hs
    replace hqx := hqx.same hs
    replace hqi := hqi.same hs
    replace hqe := hqe.same hs
    clear hs
    obtain ⟨hdv, hxr, hsw, u1, u2, u3, q1, q2⟩ := HU.out
    have hsg : ¬ IntKind.u64.signed = true := by decide
    go_upto_region 21 with fail
    have co0 : v6.cell? ⟨To, 0, none⟩ = some (.int .i64 n) := hqo.blk.cell 0
    have co1 : v6.cell? ⟨To, 1, none⟩ = some (.slice Ao wo.length Co) := hqo.blk.cell 1
    have lo := hqo.blk.lt
    have cz0 : v6.cell? ⟨Tz, 0, none⟩ = some (.int .i64 n) := hqz.blk.cell 0
    have cz1 : v6.cell? ⟨Tz, 1, none⟩ = some (.slice Az wz.length Cz) := hqz.blk.cell 1
    have lz := hqz.blk.lt
    have hbit := HBT.out
    refine wp_quiet (by kernel_rfl) (by kernel_rfl) ?_
    repeat (any_goals (first | go_big_quiet_step ((go_at_call 35; exact quiet_call (HSO2.out Ao Co Az Cz _ (Sl.same hqo.wl (more_same _ _)) (Sl.same hqz.wl (more_same _ _))))) | quiet_step ((go_at_call 35; exact quiet_call (HSO2.out Ao Co Az Cz _ (Sl.same hqo.wl (more_same _ _)) (Sl.same hqz.wl (more_same _ _)))))))
    refine wpQuiet_nil ?_
    rintro wy ⟨q, hq⟩
    have hsz : Same v6 wy := by rw [hq]; exact more_same _ q
    clear hq
    go_wp2
    go_ret
    exact ⟨rfl, (HS1.out.trans hsz (fun _ _ h => h)).to_below (Nat.le_refl _) (fun _ _ => id)⟩
end Go.Proofs.Ytlggmoghgoeiiaa


/- Truth tables: mark, spare, kept. -/
namespace Go.Proofs.Ytlggmoghgoeiiaa
open Go.RowKit Go.Tk

def mkN (i j : Nat) : Nat := (i + 1) * 4294967296 + j
set_option maxHeartbeats 4000000 in
theorem mark_any (i j : Nat) (w : World) (hi : i < 1000) (hj : j < 4611686018427387904) : Calls Try.prog 76 #[.int .i64 i, .int .i64 j] w fun e w' => e = .returned (.int .u64 (mkN i j : Nat)) ∧ w = w' := by
  have h0 : IntKind.i64.wrap ((i : Int) + 1) = (i : Int) + 1 := IntWalk.i64_in _ (by omega)
  have h1 : IntKind.u64.wrap ((i : Int) + 1) = (i : Int) + 1 := IntWalk.u64_in _ (by omega)
  have h2 : IntKind.u64.wrap (((i : Int) + 1) * 4294967296) = ((i : Int) + 1) * 4294967296 := IntWalk.u64_in _ (by omega)
  have h3 : IntKind.u64.wrap (j : Int) = j := IntWalk.u64_in _ (by omega)
  have h4 : IntKind.u64.wrap (((i : Int) + 1) * 4294967296 + j) = ((mkN i j : Nat) : Int) := by unfold mkN; rw [IntWalk.u64_in _ (by omega)]; omega
  have HM := Lib.hid h4
  go_enter Try.func76, Try.ntmps76
  go_wp2
  go_ret
  exact ⟨by first | rfl | (rw [← HM.out]; rfl) | (rw [← HM.out]; simp), rfl⟩
theorem wl_src {w : World} {A : Option Addr} {n : Nat} {xs : List Nat} (h : WL w A n xs) (hne : xs ≠ []) : ∃ ad, A = some ad ∧ ∀ j u, (xs.flatMap ucell)[j]? = some u → w.cell? (ad.add j) = some u := by
  obtain ⟨b, off, rfl, _, _⟩ := WL.at1 h (List.getElem?_eq_getElem (List.length_pos_iff.2 hne))
  refine ⟨_, rfl, fun j u hj => ?_⟩
  rw [u_flat, List.getElem?_map] at hj
  obtain ⟨x', hx', rfl⟩ := Option.map_eq_some_iff.1 hj
  obtain ⟨b2, off2, hA, _, hc⟩ := WL.at1 h hx'
  injection hA with hA
  injection hA with h1 h2
  subst h1 h2
  have hadd : (⟨b, off, none⟩ : Addr).add j = ⟨b, off + j, none⟩ := by unfold Addr.add; split <;> simp_all
  rw [hadd]
  exact hc
set_option maxRecDepth 100000 in
set_option maxHeartbeats 8000000 in
theorem spare_any (Na : Int) (Aa : Option Addr) (Ca : Nat) (wsa : List Nat) (w : World) (h : WL w Aa wsa.length wsa) (hr : wsa.length * 8 ≤ 140737488351232) :
    Calls Try.prog 45 #[.agg #[.int .i64 Na, .slice Aa wsa.length Ca]] w fun e w' => ∃ g C, e = .returned (.tuple #[.agg #[.int .i64 Na, .slice (some ⟨g, 0, none⟩) wsa.length C], .slice (some ⟨g, 0, none⟩) (wsa.length + 3) C]) ∧ OwnW w' (some ⟨g, 0, none⟩) (wsa.length + 3) C (wsa ++ [71, 72, 73]) ∧ w.heap.size ≤ g ∧ Same w w' := by
  have H := Lib.hid h
  clear h
  go_enter Try.func45, Try.ntmps45
  go_upto_region 1 with fail
  refine wp_world fun w1 hw1 => ?_
  have hs1 : Same w w1 := by rw [hw1]; exact ((Frm.refl _ _).alloc _).alloc _
  have hBX : Blk w1 (w.heap.size) 24 #[.int .i64 Na, .slice Aa wsa.length Ca] := by
    rw [hw1]
    have := ((Blk.new w 24 #[.int .i64 Na, .slice Aa wsa.length Ca]).alloc (.cells #[.int .i64 0, .slice none 0 0] 24))
    simpa using this
  have hBR : Blk w1 (w.heap.size + 1) 24 #[.int .i64 0, .slice none 0 0] := by
    rw [hw1]
    have := (Blk.new (w.alloc (.cells #[.int .i64 Na, .slice Aa wsa.length Ca] 24)) 24 #[.int .i64 0, .slice none 0 0])
    simpa using this
  clear hw1
  obtain ⟨R, hR⟩ : ∃ b, w.heap.size + 1 = b := ⟨_, rfl⟩
  obtain ⟨D, hD⟩ : ∃ b, w.heap.size = b := ⟨_, rfl⟩
  rw [hR] at hBR ⊢
  rw [hD] at hBX ⊢
  have hwR : w.heap.size ≤ R := by omega
  have hDR : D ≠ R := by omega
  have HS1 := Lib.hid hs1
  have HBX := Lib.hid hBX
  have HBR := Lib.hid hBR
  have cX1 : w1.cell? ⟨D, 1, none⟩ = some (.slice Aa wsa.length Ca) := hBX.cell 1
  have lX := hBX.lt
  clear hs1 hBX hBR
  refine wp_region_lit ?_
  refine wpList_plain rfl fun K hK => ?_
  go_simp
  refine hK _ _ ?_
  clear hK K
  refine list_world fun wa hwa => ?_
  have hsa : Same w1 wa := by rw [hwa]; exact (Frm.refl _ _).alloc _
  have hO := Own.lit w1 38 ucell (fun _ => rfl) [] (by simp) (cs := #[]) rfl
  rw [← hwa] at hO
  clear hwa
  have hF0 : Fresh w1.heap.size (some ⟨w1.heap.size, 0, none⟩) := fresh_some (Nat.le_refl _)
  have cX1 : wa.cell? ⟨D, 1, none⟩ = some (.slice Aa wsa.length Ca) := (HBX.out.frm hsa id).cell 1
  have lX := (HBX.out.frm hsa id).lt
  refine wpList_read 2 ?_
  simp only [List.take_succ_cons, List.take_zero, List.drop_succ_cons, List.drop_zero]
  repeat (any_goals (first | go_big_quiet_step (fail) | quiet_step (fail)))
  refine wpQuiet_nil ?_
  refine wpList_plain rfl fun K hK => ?_
  refine Own.append_many (.tmp 5) (.tmp 7) _ rfl Try.underlying22 info_u64 rfl (by omega) rfl hO (fun _ => rfl) wsa Aa Ca rfl (fun hne => wl_src (Sl.same H.out (HS1.out.trans hsa (fun _ _ h => h))) hne) (by simp [ucell, Value.oneCell']) (by simp [maxLen]; omega) (by simp; omega) ?_
  intro Aq Cq wb hOq hg1 hat1
  refine hK _ _ ?_
  clear hK K
  simp only [List.nil_append] at hOq ⊢
  have hsb : Same w1 wb := hsa.grown hg1 (fun g hg => .inr (hF0 g (ownBlock_row.1 hg)))
  have hFq : Fresh w1.heap.size Aq := fun b hb => by
    rcases hat1 b hb with h | h
    · exact hF0 b h
    · have := hsa.size; omega
  clear hg1 hat1 hF0 hO hsa cX1 lX
  refine wpList_plain rfl fun K hK => ?_
  go_simp
  refine hK _ _ ?_
  clear hK K
  refine list_world fun wc hwc => ?_
  have hsc : Same wb wc := by rw [hwc]; exact (Frm.refl _ _).alloc _
  have hN := Blk.new wb 38 #[.int .u64 71, .int .u64 72, .int .u64 73]
  rw [← hwc] at hN
  clear hwc
  refine wpList_plain rfl fun K hK => ?_
  refine Own.grow (f := ucell) (.tmp 8) (.tmp 9) _ rfl Try.underlying22 info_u64 rfl rfl (Own.frm hOq hsc (fun _ _ => id)) (fun _ => rfl) [71, 72, 73] (by decide) ⟨wb.heap.size, 0, none⟩ 3 rfl (fun j u hj => news_of_blk hN j u (by rw [u_flat] at hj; exact hj)) (by simp [ucell, Value.oneCell']) (by simp [maxLen]; omega) (by simp; omega) ?_
  intro g C wd hOd _ hg1 hat
  refine hK _ _ ?_
  clear hK K
  have hsd : Same w1 wd := (hsb.trans hsc (fun _ _ h => h)).grown hg1 (fun g hg => .inr (hFq g (ownBlock_row.1 hg)))
  have hgw : w.heap.size ≤ g := by
    have h1 := HS1.out.size
    rcases hat with ⟨h, _⟩ | ⟨h, _⟩
    · have := hFq g ⟨_, h, rfl⟩; omega
    · have h2 := hsb.size; have h3 := hsc.size; omega
  have hgR : g ≠ R := fun h => by
    have hl := HBR.out.lt
    rcases hat with ⟨h1, _⟩ | ⟨h1, _⟩
    · have := hFq g ⟨_, h1, rfl⟩; omega
    · have h2 := hsb.size; have h3 := hsc.size; omega
  clear hg1 hat hN hOq hFq hsb hsc
  have HOD := Lib.hid hOd
  have HSD := Lib.hid (HS1.out.trans hsd (fun _ _ h => h))
  have hBX := HBX.out.frm hsd id
  have hBR := HBR.out.frm hsd id
  have cX0 : wd.cell? ⟨D, 0, none⟩ = some (.int .i64 Na) := hBX.cell 0
  have cX1 : wd.cell? ⟨D, 1, none⟩ = some (.slice Aa wsa.length Ca) := hBX.cell 1
  have lX := hBX.lt
  have cR0 : wd.cell? ⟨R, 0, none⟩ = some (.int .i64 0) := hBR.cell 0
  have cR1 : wd.cell? ⟨R, 1, none⟩ = some (.slice none 0 0) := hBR.cell 1
  have lR := hBR.lt
  have fR0 := hBR.free 0
  have fR1 := hBR.free 1
  have HBR2 := Lib.hid hBR
  have hC3 : wsa.length + 3 ≤ C := Own.cap hOd
  have hCw : wsa.length ≤ C := by omega
  obtain ⟨S, hS⟩ : ∃ S : Nat → Prop, (fun b => b = R) = S := ⟨_, rfl⟩
  have hSD : ¬ S D := by rw [← hS]; exact fun h => hDR h
  have hSR : S R := by rw [← hS]
  have HSS := Lib.hid hS
  clear hBX hBR hOd hsd HBX HBR hS
  go_upto_region 2 with fail
  refine wp_phS S [([0, 1, 2, 3, 4, 5, 6, 7, 8], 9), ([], 10)] (by kernel_rfl) (by kernel_rfl) ?_
  simp only [wpPh, pick, List.map_cons, List.map_nil, List.getD_cons_zero, List.getD_cons_succ]
  repeat (any_goals (first | go_big_quiet_step (fail) | quiet_step (fail)))
  refine wpQuiet_nil ?_
  refine effStep_plain rfl fun K hK => ?_
  go_simp
  refine hK _ _ (Lat.mk_ (((Frm.drew (Frm.refl S wd)).set 0 _ hSR).set 1 _ hSR)) ?_
  clear hK K
  refine wpQuiet_nil ?_
  go_wp2
  refine wp_post fun we hwe => ?_
  have hBE : Blk we R 24 #[.int .i64 Na, .slice (some ⟨g, 0, none⟩) wsa.length C] := by
    rw [hwe]
    have := ((HBR2.out.set 0 (.int .i64 Na)).set 1 (.slice (some ⟨g, 0, none⟩) wsa.length C)).drew
    simpa using this
  have hSE : Same w we := by rw [hwe]; exact ((HSD.out.setNew 0 _ hwR).setNew 1 _ hwR).drew
  have hOE : OwnW we (some ⟨g, 0, none⟩) (wsa.length + 3) C (wsa ++ [71, 72, 73]) := by
    rw [hwe]
    exact Own.frm (Own.far (p := ⟨R, 1, none⟩) (Own.far (p := ⟨R, 0, none⟩) HOD.out (fun a ha => by injection ha with ha; subst ha; exact hgR) _) (fun a ha => by injection ha with ha; subst ha; exact hgR) _) ((Frm.refl (fun _ => False) _).drew) (fun _ _ => id)
  have hr0 : we.cell? ⟨R, 0, none⟩ = some (.int .i64 Na) := hBE.cell 0
  have hr1 : we.cell? ⟨R, 1, none⟩ = some (.slice (some ⟨g, 0, none⟩) wsa.length C) := hBE.cell 1
  clear hwe hBE
  refine bodyPost_ret (v := .tuple #[.agg #[.int .i64 Na, .slice (some ⟨g, 0, none⟩) wsa.length C], .slice (some ⟨g, 0, none⟩) (wsa.length + 3) C]) (by simp [results, Try.results45, go_sem, hr0, hr1]) rfl ?_
  exact ⟨g, C, rfl, hOE, hgw, hSE⟩
set_option maxRecDepth 100000 in
set_option maxHeartbeats 8000000 in
theorem kept_any (Na : Int) (Aa : Option Addr) (Ca : Nat) (wsa : List Nat) (g C : Nat) (w : World) (h : WL w Aa wsa.length wsa) (hr : wsa.length * 8 ≤ 140737488351232) (ho : OwnW w (some ⟨g, 0, none⟩) (wsa.length + 3) C (wsa ++ [71, 72, 73])) :
    Calls Try.prog 48 #[.agg #[.int .i64 Na, .slice Aa wsa.length Ca], .slice (some ⟨g, 0, none⟩) (wsa.length + 3) C] w fun e w' => e = .returned (.bool true) ∧ Same w w' := by
  have HA := Lib.hid h
  have HSM := Lib.hid (fun w h1 h2 => same_any Na Aa wsa.length Ca wsa Na (some ⟨g, 0, none⟩) wsa.length C wsa w h1 h2 (by omega))
  have hsm : sm Na Na wsa wsa = true := sm_self _ _
  simp only [hsm] at HSM
  have hf := Own.front (xs := wsa) (ys := [71, 72, 73]) ucell_len ho
  have HB := Lib.hid (hf.sl ucell_len)
  have hat := fun (i x : Nat) (hi : (wsa ++ [71, 72, 73])[i]? = some x) => Own.at1 (c := fun x : Nat => .int .u64 (x : Int)) ho hi
  obtain ⟨s0, h0, hgl, c0⟩ := hat wsa.length 71 (by simp)
  injection h0 with h0
  injection h0 with h0
  subst h0
  obtain ⟨s0, h0, _, c1⟩ := hat (wsa.length + 1) 72 (by simp)
  injection h0 with h0
  injection h0 with h0
  subst h0
  obtain ⟨s0, h0, _, c2⟩ := hat (wsa.length + 2) 73 (by simp)
  injection h0 with h0
  injection h0 with h0
  subst h0
  have hC3 : wsa.length + 3 ≤ C := Own.cap ho
  have hCw : wsa.length ≤ C := by omega
  clear h ho hf hat hsm
  go_enter Try.func48, Try.ntmps48
  go_upto_region 1 with fail
  refine wp_world fun w1 hw1 => ?_
  obtain ⟨hqX, hs1⟩ := Tv.make HA.out hw1
  have HA2 := Lib.hid hqX.wl
  have HB2 := Lib.hid (Sl.same HB.out hs1)
  have cX0 : w1.cell? ⟨w.heap.size, 0, none⟩ = some (.int .i64 Na) := hqX.blk.cell 0
  have cX1 : w1.cell? ⟨w.heap.size, 1, none⟩ = some (.slice Aa wsa.length Ca) := hqX.blk.cell 1
  have lX := hqX.blk.lt
  have d0 := (hs1.cell (p := ⟨g, wsa.length, none⟩) hgl id).trans c0
  have d1 := (hs1.cell (p := ⟨g, wsa.length + 1, none⟩) hgl id).trans c1
  have d2 := (hs1.cell (p := ⟨g, wsa.length + 2, none⟩) hgl id).trans c2
  have lg := Nat.lt_of_lt_of_le hgl hs1.size
  have HS1 := Lib.hid hs1
  have hi0 : (0 : Int) ≤ wsa.length := by omega
  have hi1 : (wsa.length : Int) < wsa.length + 3 := by omega
  have hi2 : (wsa.length : Int) + 1 < wsa.length + 3 := by omega
  have hi3 : (wsa.length : Int) + 2 < wsa.length + 3 := by omega
  clear hw1 hqX hs1 c0 c1 c2 hgl
  go_upto_region 2 with fail
  refine wp_quiet (by kernel_rfl) (by kernel_rfl) ?_
  repeat (any_goals (first | go_big_quiet_step ((go_at_call 35; exact quiet_call (HSM.out _ (Sl.same HA2.out (more_same _ _)) (Sl.same HB2.out (more_same _ _))))) | quiet_step ((go_at_call 35; exact quiet_call (HSM.out _ (Sl.same HA2.out (more_same _ _)) (Sl.same HB2.out (more_same _ _)))))))
  refine wpQuiet_nil ?_
  rintro wy ⟨q, hq⟩
  have hsz : Same w1 wy := by rw [hq]; exact more_same _ q
  clear hq
  go_wp2
  go_ret
  exact ⟨rfl, HS1.out.trans hsz (fun _ _ h => h)⟩
end Go.Proofs.Ytlggmoghgoeiiaa


/- Truth tables: apart. -/
namespace Go.Proofs.Ytlggmoghgoeiiaa
open Go.RowKit Go.Tk

/-- a slice of words -/
structure Rw where
  A : Option Addr
  N : Nat
  C : Nat
def rcell (r : Rw) : List Value := [.slice r.A r.N r.C]
theorem rcell_len (r : Rw) : (rcell r).length = 1 := rfl
theorem info_sl : (Try.prog.info? 22).map (fun i => (i.zero, i.size, i.bytes)) = some (some (.slice none 0 0), 1, 24) := by kernel_rfl
abbrev OwnR (w : World) (A : Option Addr) (N C : Nat) (rs : List Rw) : Prop := Own w 22 1 rcell A N C rs
def marks (i n : Nat) : List Nat := (List.range n).map (mkN i)
theorem marks_len (i n : Nat) : (marks i n).length = n := by simp [marks]
theorem marks_get {i n j : Nat} (h : j < n) : (marks i n)[j]? = some (mkN i j) := by simp [marks, h]
theorem marks_succ (i n : Nat) : marks i (n + 1) = marks i n ++ [mkN i n] := by simp [marks, List.range_succ]
theorem marks_add (i n : Nat) : ∀ t, marks i (n + t) = marks i n ++ (List.range t).map (fun j => mkN i (n + j))
  | 0 => by simp
  | t + 1 => by rw [← Nat.add_assoc, marks_succ, marks_add i n t, List.range_succ, List.map_append, List.append_assoc]; rfl
theorem marks_step {i n t : Nat} {xs : List Nat} (hx : xs.length = n) (h : t < n) : ((marks i n).take t ++ xs.drop t).set t (mkN i t) = (marks i n).take (t + 1) ++ xs.drop (t + 1) := by
  have hl : ((marks i n).take t).length = t := by rw [List.length_take, marks_len]; omega
  rw [List.set_append_right _ _ (by omega), hl, Nat.sub_self, List.drop_eq_getElem_cons (by omega), List.set_cons_zero, List.take_add_one, marks_get h]
  simp
/-- the row is there, its words whatever they are -/
theorem Rw.at1 {w : World} {A : Option Addr} {m : Nat} {rs : List Rw} (h : Sl w 1 rcell A m rs) {i : Nat} {r : Rw} (hi : rs[i]? = some r) : ∃ b off, A = some ⟨b, off, none⟩ ∧ b < w.heap.size ∧ w.cell? ⟨b, off + i, none⟩ = some (.slice r.A r.N r.C) := by
  obtain ⟨b, off, h1, h2, h3⟩ := h.get i r hi
  refine ⟨b, off, h1, h2, ?_⟩
  have := h3 0 (by omega)
  simpa [rcell] using this
theorem Own.row {w : World} {e : TypeId} {m : Nat} {α : Type} {f : α → List Value} {A : Option Addr} {N C : Nat} {xs : List α} (h : Own w e m f A N C xs) : ∀ b, rowOf A b → b < w.heap.size := by
  rintro b ⟨a, ha, rfl⟩
  exact h.block a ha
theorem frm_own {S : Nat → Prop} {w w' : World} {e : TypeId} {m : Nat} {α : Type} {f : α → List Value} {A : Option Addr} {N C : Nat} {xs : List α} (h : Own w e m f A N C xs) (hf : Frm S w w') (hn : ∀ b, rowOf A b → ¬ S b) : Own w' e m f A N C xs :=
  Own.frm h hf (fun a ha => hn a.block ⟨a, ha, rfl⟩)
theorem rw_some {g : Nat} {b : Nat} : rowOf (some ⟨g, 0, none⟩) b ↔ b = g := ⟨fun ⟨a, ha, hb⟩ => by injection ha with ha; subst ha; exact hb.symm, fun h => ⟨_, rfl, h.symm⟩⟩
theorem rw_own {A : Option Addr} {N C b : Nat} (h : (Value.slice A N C).ownBlock = some b) : rowOf A b := ownBlock_row.1 h
/-- behind some rows of the second loop -/
structure GI (w : World) (rs : List Rw) (S : Nat → Prop) (BB : Nat) (wi : World) (gA : Option Addr) (gC : Nat) (gs : List Rw) : Prop where
  frm : Frm S w wi
  bools : Blk wi BB 4 #[.bool false, .bool true]
  rows : ∀ (i : Nat) (r : Rw), rs[i]? = some r → OwnW wi r.A r.N r.C (marks i r.N)
  grown : OwnR wi gA gs.length gC gs
  each : ∀ (i : Nat) (g r : Rw), gs[i]? = some g → rs[i]? = some r → g.N = r.N + 20 ∧ OwnW wi g.A g.N g.C (marks i (r.N + 20)) ∧ ∀ b, rowOf g.A b → rowOf r.A b ∨ w.heap.size ≤ b
  apart : ∀ (i j : Nat) (g h : Rw), gs[i]? = some g → gs[j]? = some h → i ≠ j → ∀ b, rowOf g.A b → ¬ rowOf h.A b
  fresh : Fresh w.heap.size gA
/-- inside the growing of one -/
structure DI (wk : World) (k : Nat) (r : Rw) (wi : World) (gA : Option Addr) (gN gC : Nat) (mA : Option Addr) (mN mC : Nat) : Prop where
  frm : Frm (fun b => rowOf r.A b) wk wi
  row : OwnW wi r.A r.N r.C (marks k r.N)
  le : r.N ≤ gN
  g : OwnW wi gA gN gC (marks k gN)
  at_ : (gA = r.A ∧ gC = r.C) ∨ Fresh wk.heap.size gA
  more : OwnW wi mA mN mC ((List.range mN).map fun t => mkN k (r.N + t))
  mf : Fresh wk.heap.size mA
  dis : ∀ b, rowOf mA b → ¬ rowOf gA b
theorem DI.start {wk : World} {k : Nat} {r : Rw} (h : OwnW wk r.A r.N r.C (marks k r.N)) : DI wk k r wk r.A r.N r.C none 0 0 :=
  ⟨Frm.refl _ _, h, Nat.le_refl _, h, .inl ⟨rfl, rfl⟩, Own.nil _ _ _ _, fresh_none _, fun b ⟨a, ha, _⟩ => by cases ha⟩
theorem DI.old {wk : World} {k : Nat} {r : Rw} {wi : World} {gA : Option Addr} {gN gC : Nat} {mA : Option Addr} {mN mC : Nat} (h : DI wk k r wi gA gN gC mA mN mC) (h0 : ∀ b, rowOf r.A b → b < wk.heap.size) : ∀ b, rowOf mA b → ¬ rowOf r.A b := fun b hb hr => by
  have := h.mf b hb
  have := h0 b hr
  omega
theorem DI.stepM {wk : World} {k : Nat} {r : Rw} {wi wa wb : World} {gA : Option Addr} {gN gC : Nat} {mA : Option Addr} {mN mC x C' : Nat} (h : DI wk k r wi gA gN gC mA mN mC) (h0 : ∀ b, rowOf r.A b → b < wk.heap.size) (hs : Same wi wa)
    (hg : wa.grownBy wb (Value.slice mA mN mC).ownBlock) (ho : OwnW wb (some ⟨x, 0, none⟩) (mN + 1) C' ((List.range mN).map (fun t => mkN k (r.N + t)) ++ [mkN k (r.N + mN)])) (hat : (mA = some ⟨x, 0, none⟩ ∧ C' = mC) ∨ (x = wa.heap.size ∧ wa.grownBy wb none)) :
    DI wk k r wb gA gN gC (some ⟨x, 0, none⟩) (mN + 1) C' := by
  have hsz := h.frm.size
  have hsz2 := hs.size
  have h1 : Frm (fun b => rowOf r.A b) wk wa := h.frm.trans hs (fun _ _ h => h.elim)
  have hxf : wk.heap.size ≤ x := by
    rcases hat with ⟨h2, _⟩ | ⟨h2, _⟩
    · exact h.mf x ⟨_, h2, rfl⟩
    · omega
  refine ⟨h1.grown hg (fun g hg => .inr (h.mf g (rw_own hg))), Own.keptBy (Own.frm h.row hs (fun _ _ => id)) hg (fun b hb => fun hr => h.old h0 b (rw_own hb) hr), h.le, Own.keptBy (Own.frm h.g hs (fun _ _ => id)) hg (fun b hb => h.dis b (rw_own hb)), h.at_, ?_, fresh_some hxf, ?_⟩
  · rw [List.range_succ, List.map_append]; exact ho
  · intro b hb hr
    obtain rfl := rw_some.1 hb
    rcases hat with ⟨h2, _⟩ | ⟨h2, _⟩
    · exact h.dis b ⟨_, h2, rfl⟩ hr
    · have := Own.row h.g b hr; omega
theorem DI.stepG {wk : World} {k : Nat} {r : Rw} {wi wa wb : World} {gA : Option Addr} {gN gC : Nat} {mA : Option Addr} {mN mC x C' : Nat} {ys : List Nat} (h : DI wk k r wi gA gN gC mA mN mC) (h0 : ∀ b, rowOf r.A b → b < wk.heap.size) (hs : Same wi wa)
    (hg : wa.grownBy wb (Value.slice gA gN gC).ownBlock) (ho : OwnW wb (some ⟨x, 0, none⟩) (gN + ys.length) C' (marks k gN ++ ys)) (hy : marks k gN ++ ys = marks k (gN + ys.length)) (hat : (gA = some ⟨x, 0, none⟩ ∧ C' = gC) ∨ (x = wa.heap.size ∧ wa.grownBy wb none)) :
    DI wk k r wb (some ⟨x, 0, none⟩) (gN + ys.length) C' mA mN mC := by
  have hsz := h.frm.size
  have hsz2 := hs.size
  have hra := Own.frm h.row hs (fun _ _ => id)
  have hma := Own.frm h.more hs (fun _ _ => id)
  have h1 : Frm (fun b => rowOf r.A b) wk wa := h.frm.trans hs (fun _ _ h => h.elim)
  have hle := h.le
  have hfr : Frm (fun b => rowOf r.A b) wk wb := h1.grown hg (fun g hg => by
    rcases h.at_ with ⟨h2, _⟩ | h2
    · exact .inl (h2 ▸ rw_own hg)
    · exact .inr (h2 g (rw_own hg)))
  have hdis : ∀ b, rowOf mA b → ¬ rowOf (some ⟨x, 0, none⟩) b := fun b hb hr => by
    obtain rfl := rw_some.1 hr
    rcases hat with ⟨h2, _⟩ | ⟨h2, _⟩
    · exact h.dis b hb ⟨_, h2, rfl⟩
    · have := Own.row h.more b hb; omega
  have hmb : OwnW wb mA mN mC ((List.range mN).map fun t => mkN k (r.N + t)) := Own.keptBy hma hg (fun b hb hr => h.dis b hr (rw_own hb))
  rw [hy] at ho
  obtain ⟨d, hd⟩ : ∃ d, gN + ys.length = r.N + d := ⟨gN + ys.length - r.N, by omega⟩
  rcases hat with ⟨hA, hC⟩ | ⟨hx, hgn⟩
  · rcases h.at_ with ⟨h2, h3⟩ | h2
    · refine ⟨hfr, ?_, by omega, ho, .inl ⟨hA ▸ h2, hC.trans h3⟩, hmb, h.mf, hdis⟩
      have hf := ho
      rw [hd, marks_add] at hf
      have := Own.front ucell_len hf
      rw [marks_len] at this
      rw [← h2, hA, ← h3, ← hC]
      exact this
    · refine ⟨hfr, Own.keptBy hra hg (fun b hb hr => ?_), by omega, ho, .inr (hA ▸ h2), hmb, h.mf, hdis⟩
      have := h2 b (rw_own hb)
      have := h0 b hr
      omega
  · exact ⟨hfr, Own.keptBy hra hgn (fun b hb => by cases hb), by omega, ho, .inr (fresh_some (by omega)), hmb, h.mf, hdis⟩
theorem GI.grownAt {w : World} {rs : List Rw} {S : Nat → Prop} {BB : Nat} {wk wi wa : World} {gA : Option Addr} {gC : Nat} {gs : List Rw} {r : Rw} {hA : Option Addr} {gN hC : Nat} {mA : Option Addr} {mN mC : Nat} (h : GI w rs S BB wk gA gC gs) (hr : rs[gs.length]? = some r)
    (hSr : ∀ (i : Nat) (r : Rw), rs[i]? = some r → ∀ b, rowOf r.A b → S b) (hSw : ∀ b, S b → b < w.heap.size)
    (hd : DI wk gs.length r wi hA gN hC mA mN mC) (hs : Same wi wa) : OwnR wa gA gs.length gC gs :=
  frm_own h.grown (hd.frm.trans hs (fun _ _ h => h.elim)) (fun b hb hrb => by have := h.fresh b hb; have := hSw b (hSr _ _ hr b hrb); omega)
theorem GI.next {w : World} {rs : List Rw} {S : Nat → Prop} {BB : Nat} {wk wi wa wj : World} {gA : Option Addr} {gC : Nat} {gs : List Rw} {r : Rw} {hA : Option Addr} {hC : Nat} {mA : Option Addr} {mN mC x C' : Nat} (h : GI w rs S BB wk gA gC gs) (hr : rs[gs.length]? = some r)
    (hD : ∀ (i j : Nat) (r s : Rw), rs[i]? = some r → rs[j]? = some s → i ≠ j → ∀ b, rowOf r.A b → ¬ rowOf s.A b) (hSr : ∀ (i : Nat) (r : Rw), rs[i]? = some r → ∀ b, rowOf r.A b → S b) (hSw : ∀ b, S b → b < w.heap.size)
    (hd : DI wk gs.length r wi hA (r.N + 20) hC mA mN mC) (hs : Same wi wa) (hg : wa.grownBy wj (Value.slice gA gs.length gC).ownBlock)
    (ho : OwnR wj (some ⟨x, 0, none⟩) (gs.length + 1) C' (gs ++ [⟨hA, r.N + 20, hC⟩])) (hat : (gA = some ⟨x, 0, none⟩ ∧ C' = gC) ∨ (x = wa.heap.size ∧ wa.grownBy wj none)) :
    GI w rs S BB wj (some ⟨x, 0, none⟩) C' (gs ++ [⟨hA, r.N + 20, hC⟩]) := by
  have s1 := h.frm.size
  have s2 := hd.frm.size
  have s3 := hs.size
  have hrw : ∀ b, rowOf r.A b → b < w.heap.size := fun b hb => hSw b (hSr _ _ hr b hb)
  have hfa : Frm (fun b => rowOf r.A b) wk wa := hd.frm.trans hs (fun _ _ h => h.elim)
  have hga : OwnR wa gA gs.length gC gs := frm_own h.grown hfa (fun b hb hrb => by have := h.fresh b hb; have := hrw b hrb; omega)
  have kp : ∀ {A : Option Addr} {N C : Nat} {xs : List Nat}, OwnW wa A N C xs → OwnW wj A N C xs := fun ho => Own.keptBy ho hg (fun b hb hA => Own.ne_own ho hga (by decide) b hA (rw_own hb))
  have hrow : ∀ (i : Nat) (s : Rw), rs[i]? = some s → OwnW wa s.A s.N s.C (marks i s.N) := fun i s hi => by
    by_cases hik : i = gs.length
    · subst hik
      obtain rfl := Option.some.inj (hr.symm.trans hi)
      exact Own.frm hd.row hs (fun _ _ => id)
    · exact frm_own (h.rows i s hi) hfa (fun b hb hb2 => hD _ _ _ _ hi hr hik b hb hb2)
  have hxf : w.heap.size ≤ x := by
    rcases hat with ⟨h2, _⟩ | ⟨h2, _⟩
    · exact h.fresh x ⟨_, h2, rfl⟩
    · omega
  have hold : ∀ (i : Nat) (g s : Rw), gs[i]? = some g → rs[i]? = some s → OwnW wa g.A g.N g.C (marks i (s.N + 20)) := fun i g s hi hsi => by
    obtain ⟨_, e2, e3⟩ := h.each i g s hi hsi
    refine frm_own e2 hfa (fun b hb hb2 => ?_)
    rcases e3 b hb with h4 | h4
    · exact hD _ _ _ _ hsi hr (by have := lt_get hi; omega) b h4 hb2
    · have := hrw b hb2; omega
  have hnew : ∀ (i : Nat) (g s : Rw), gs[i]? = some g → rs[i]? = some s → ∀ b, rowOf g.A b → ¬ rowOf hA b := fun i g s hi hsi b hb hb2 => by
    obtain ⟨_, e2, e3⟩ := h.each i g s hi hsi
    rcases hd.at_ with ⟨h2, _⟩ | h2
    · rw [h2] at hb2
      rcases e3 b hb with h4 | h4
      · exact hD _ _ _ _ hsi hr (by have := lt_get hi; omega) b h4 hb2
      · have := hrw b hb2; omega
    · have := h2 b hb2
      have := Own.row e2 b hb
      omega
  have hpt : ∀ (i : Nat) (g : Rw), (gs ++ [(⟨hA, r.N + 20, hC⟩ : Rw)])[i]? = some g → (gs[i]? = some g ∧ i < gs.length) ∨ (i = gs.length ∧ g = ⟨hA, r.N + 20, hC⟩) := fun i g hi => by
    by_cases hl : i < gs.length
    · rw [List.getElem?_append_left hl] at hi; exact .inl ⟨hi, hl⟩
    · rw [List.getElem?_append_right (by omega)] at hi
      have h0 : i - gs.length = 0 := by
        have := lt_get hi
        simp at this
        omega
      rw [h0] at hi
      exact .inr ⟨by omega, (Option.some.inj hi).symm⟩
  have hsome : ∀ i, i < gs.length → ∃ s, rs[i]? = some s := fun i hi => ⟨_, List.getElem?_eq_getElem (by have := lt_get hr; omega)⟩
  refine ⟨?_, ?_, fun i s hi => kp (hrow i s hi), ?_, ?_, ?_, fresh_some hxf⟩
  · refine (h.frm.trans hfa (fun i _ hi => hSr _ _ hr i hi)).grown hg (fun g hg => .inr (h.fresh g (rw_own hg)))
  · have hba := h.bools.frm hfa (fun hb => by have := Own.ne_blk (h.rows _ _ hr) h.bools (by decide); obtain ⟨a, ha, hb⟩ := hb; exact this a ha hb)
    exact hba.grown hg (fun hb => by obtain ⟨a, ha, hb⟩ := rw_own hb.symm; exact Own.ne_blk hga hba (by decide) a ha hb)
  · simpa using ho
  · intro i g s hi hsi
    rcases hpt i g hi with ⟨h1, _⟩ | ⟨rfl, rfl⟩
    · obtain ⟨e1, e2, e3⟩ := h.each i g s h1 hsi
      exact ⟨e1, kp (hold i g s h1 hsi), e3⟩
    · obtain rfl := Option.some.inj (hr.symm.trans hsi)
      refine ⟨rfl, kp (Own.frm hd.g hs (fun _ _ => id)), fun b hb => ?_⟩
      rcases hd.at_ with ⟨h2, _⟩ | h2
      · exact .inl (h2 ▸ hb)
      · have := h2 b hb; exact .inr (by omega)
  · intro i j g g' hi hj hij b hb hb2
    rcases hpt i g hi with ⟨h1, l1⟩ | ⟨rfl, rfl⟩
    · rcases hpt j g' hj with ⟨h2, l2⟩ | ⟨rfl, rfl⟩
      · exact h.apart i j g g' h1 h2 hij b hb hb2
      · obtain ⟨s, hs⟩ := hsome i l1
        exact hnew i g s h1 hs b hb hb2
    · rcases hpt j g' hj with ⟨h2, l2⟩ | ⟨rfl, rfl⟩
      · obtain ⟨s, hs⟩ := hsome j l2
        exact hnew j g' s h2 hs b hb2 hb
      · exact hij rfl
set_option maxRecDepth 100000 in
set_option maxHeartbeats 16000000 in
theorem apart_any (AL : Option Addr) (m CL : Nat) (rs : List Rw) (w : World) (hL : Sl w 1 rcell AL m rs) (hm : m ≤ 500) (hO : ∀ (i : Nat) (r : Rw), rs[i]? = some r → ∃ xs, OwnW w r.A r.N r.C xs)
    (hD : ∀ (i j : Nat) (r s : Rw), rs[i]? = some r → rs[j]? = some s → i ≠ j → ∀ b, rowOf r.A b → ¬ rowOf s.A b) (hLr : ∀ b, rowOf AL b → ∀ (i : Nat) (r : Rw), rs[i]? = some r → ¬ rowOf r.A b) (hN : ∀ (i : Nat) (r : Rw), rs[i]? = some r → r.N * 8 ≤ 140737488354000) :
    Calls Try.prog 49 #[.slice AL m CL] w fun e w' => e = .returned (.bool true) ∧ Frm (fun b => ∃ (i : Nat) (r : Rw), rs[i]? = some r ∧ rowOf r.A b) w w' := by
  obtain ⟨S, hSdef⟩ : ∃ S : Nat → Prop, (fun b => ∃ (i : Nat) (r : Rw), rs[i]? = some r ∧ rowOf r.A b) = S := ⟨_, rfl⟩
  have hS1 : ∀ (i : Nat) (r : Rw), rs[i]? = some r → ∀ b, rowOf r.A b → S b := fun i r hi b hb => by rw [← hSdef]; exact ⟨i, r, hi, hb⟩
  have hSL : ∀ b, rowOf AL b → ¬ S b := fun b hb hs => by rw [← hSdef] at hs; obtain ⟨i, r, hi, hr⟩ := hs; exact hLr b hb i r hi hr
  have hSw : ∀ b, S b → b < w.heap.size := fun b hs => by
    rw [← hSdef] at hs
    obtain ⟨i, r, hi, hr⟩ := hs
    obtain ⟨xs, ho⟩ := hO i r hi
    exact Own.row ho b hr
  rw [hSdef]
  have hml := hL.len
  have HS1 := Lib.hid hS1
  have HSL := Lib.hid hSL
  have HSW := Lib.hid hSw
  have HLL := Lib.hid hL
  have HD := Lib.hid hD
  have HN := Lib.hid hN
  have HO := Lib.hid hO
  have HML := Lib.hid hml
  clear hS1 hSL hSw hSdef hLr hD hN hO hL hml
  go_enter Try.func49, Try.ntmps49
  go_wp2
  go_loopw [20] (fun i wr => ∃ k : Nat, k ≤ m ∧ i = .int .i64 k ∧ Frm S w wr ∧ ∀ (i : Nat) (r : Rw), rs[i]? = some r → ∃ xs, OwnW wr r.A r.N r.C xs ∧ (i < k → xs = marks i r.N)) (fun i _ => m - (intOf i).toNat)
  case atStart => exact ⟨0, by omega, rfl, Frm.refl _ _, fun i r hi => by obtain ⟨xs, ho⟩ := HO.out i r hi; exact ⟨xs, ho, fun h => by omega⟩⟩
  case round =>
    obtain ⟨k, hk, rfl, hf, hall⟩ := hrel
    clear HO
    have HF := Lib.hid hf
    have HALL := Lib.hid hall
    clear hf hall
    by_cases hlt : k < m
    · obtain ⟨r, hr⟩ : ∃ r, rs[k]? = some r := ⟨_, List.getElem?_eq_getElem (by rw [← HML.out]; exact hlt)⟩
      obtain ⟨bL, oL, hAL, hbL, hcL⟩ := Rw.at1 HLL.out hr
      subst hAL
      have hcw : wr.cell? ⟨bL, oL + k, none⟩ = some (.slice r.A r.N r.C) := (HF.out.cell (p := ⟨bL, oL + k, none⟩) hbL (HSL.out bL ⟨_, rfl, rfl⟩)).trans hcL
      have hlw := Nat.lt_of_lt_of_le hbL HF.out.size
      have hk0 : (0 : Int) ≤ k := by omega
      have hk1 : (k : Int) < m := by omega
      obtain ⟨xs, hox, _⟩ := HALL.out k r hr
      have hxl := hox.len
      have hNr := HN.out k r hr
      have HX := Lib.hid hox
      have HXL := Lib.hid hxl
      have HR := Lib.hid hr
      obtain ⟨wo, rfl⟩ : ∃ z, z = wr := ⟨_, rfl⟩
      clear hcL hbL hox hxl hr
      obtain ⟨rA, rN, rC⟩ := r
      simp only at HX HXL hNr hcw
      go_wp2
      go_loopw [27] (fun j wi => ∃ t : Nat, t ≤ rN ∧ j = .int .i64 t ∧ Frm (fun b => rowOf rA b) wo wi ∧ OwnW wi rA rN rC ((marks k rN).take t ++ xs.drop t)) (fun j _ => rN - (intOf j).toNat)
      case atStart => exact ⟨0, by omega, rfl, Frm.refl _ _, by simpa using HX.out⟩
      case round =>
        obtain ⟨t, ht, rfl, hf, ho⟩ := hrel
        have HFI := Lib.hid hf
        have hsd : ((marks k rN).take t ++ xs.drop t).length = rN := ho.len.symm
        by_cases hlt2 : t < rN
        · obtain ⟨y, hy⟩ : ∃ y, ((marks k rN).take t ++ xs.drop t)[t]? = some y := ⟨_, List.getElem?_eq_getElem (by omega)⟩
          obtain ⟨sb, hA, hsl, hsc⟩ := Own.at1 (c := fun x : Nat => .int .u64 (x : Int)) ho hy
          subst hA
          have hfr := Own.free ho t
          have hp := Own.put1 (c := fun x : Nat => .int .u64 (x : Int)) ho (i := t) (by omega) (mkN k t)
          rw [marks_step HXL.out.symm hlt2] at hp
          have HP := Lib.hid hp
          have ht0 : (0 : Int) ≤ t := by omega
          have ht1 : (t : Int) < rN := by omega
          clear hf ho hsd hy hp hcw hlw
          go_wp2_with (fail)
          refine (mark_any k t wr (by omega) (by omega)).mono ?_
          rintro e w9 ⟨rfl, rfl⟩
          go_wp2
          go_roundw
          case rel => exact ⟨t + 1, by omega, by go_num, HFI.out.set t _ (rw_some.2 rfl), HP.out⟩
          case measure => simp [intOf]; omega
        · obtain rfl : t = rN := by omega
          have hfull := ho
          rw [List.take_of_length_le (by rw [marks_len]; exact Nat.le_refl _), List.drop_of_length_le (by rw [← HXL.out]; exact Nat.le_refl _), List.append_nil] at hfull
          have HFU := Lib.hid hfull
          clear hf ho hsd hfull hcw hlw
          go_wp2
          go_roundw
          case rel =>
            refine ⟨k + 1, by omega, by go_num, HF.out.trans HFI.out (fun i _ hi => HS1.out k _ HR.out i hi), fun i s hi => ?_⟩
            by_cases hik : i = k
            · subst hik
              obtain rfl := Option.some.inj (HR.out.symm.trans hi)
              exact ⟨_, HFU.out, fun _ => rfl⟩
            · obtain ⟨ys, h1, h2⟩ := HALL.out i s hi
              exact ⟨ys, frm_own h1 HFI.out (fun b hb hb2 => HD.out i k _ _ hi HR.out hik b hb hb2), fun h => h2 (by omega)⟩
          case measure => simp [intOf]; omega
    · obtain rfl : k = m := by omega
      have hall2 : ∀ (i : Nat) (r : Rw), rs[i]? = some r → OwnW wr r.A r.N r.C (marks i r.N) := fun i r hi => by
        obtain ⟨xs, h1, h2⟩ := HALL.out i r hi
        have hil : i < k := by rw [HML.out]; exact lt_get hi
        rw [h2 hil] at h1
        exact h1
      replace HALL := Lib.hid hall2
      clear hall2
      go_upto_region 11 with fail
      refine wp_world fun wb hwb => ?_
      have hBB : Blk wb wr.heap.size 4 #[.bool false, .bool true] := by rw [hwb]; exact Blk.new _ _ _
      have hsb : Same wr wb := by rw [hwb]; exact (Frm.refl _ _).alloc _
      have HF2 := Lib.hid (HF.out.trans hsb (fun _ _ h => h.elim))
      have HALL2 := Lib.hid (fun (i : Nat) (r : Rw) (hi : rs[i]? = some r) => Own.frm (HALL.out i r hi) hsb (fun _ _ => id))
      clear hwb hsb HF HALL
      obtain ⟨BB, hBBe⟩ : ∃ z, z = wr.heap.size := ⟨_, rfl⟩
      rw [← hBBe] at hBB ⊢
      have hbl := hBB.lt
      have HB := Lib.hid hBB
      clear hBBe hBB
      obtain ⟨w0, rfl⟩ : ∃ z, z = wr := ⟨_, rfl⟩
      go_wp2
      go_loopw [40] (fun q wi => ∃ t : Nat, t ≤ 2 ∧ q = .int .i64 t ∧ Frm S w wi ∧ Blk wi BB 4 #[.bool false, .bool true] ∧ ∀ (i : Nat) (r : Rw), rs[i]? = some r → OwnW wi r.A r.N r.C (marks i r.N)) (fun q _ => 2 - (intOf q).toNat)
      case atStart => exact ⟨0, by omega, rfl, HF2.out, HB.out, HALL2.out⟩
      case round =>
        obtain ⟨t0, ht0, rfl, hf, hb, hall⟩ := hrel
        clear HF2 HB HALL2 hbl
        by_cases hlt : t0 < 2
        · obtain ⟨many, hmany⟩ : ∃ many : Bool, many = decide (t0 = 1) := ⟨_, rfl⟩
          have hcq : wr.cell? ⟨BB, t0, none⟩ = some (.bool many) := by
            rw [hb.cell t0, hmany]
            have : t0 = 0 ∨ t0 = 1 := by omega
            rcases this with rfl | rfl <;> rfl
          have hbl := hb.lt
          have hq0 : (0 : Int) ≤ t0 := by omega
          have hq1 : (t0 : Int) < 2 := by omega
          have hgi0 : GI w rs S BB wr none 0 [] := ⟨hf, hb, hall, Own.nil _ _ _ _, fun i g r hi => by simp at hi, fun i j g h hi => by simp at hi, fresh_none _⟩
          have HGI := Lib.hid hgi0
          clear hf hb hall hmany hgi0
          go_wp2
          obtain ⟨wo, rfl⟩ : ∃ z, z = wr := ⟨_, rfl⟩
          go_loopw [8, 46] (fun s i wi => ∃ (gs : List Rw) (gA : Option Addr) (gC : Nat), gs.length ≤ k ∧ i = .int .i64 gs.length ∧ s = .slice gA gs.length gC ∧ GI w rs S BB wi gA gC gs) (fun _ i _ => k - (intOf i).toNat)
          case atStart => exact ⟨[], none, 0, by simp, rfl, rfl, HGI.out⟩
          case round =>
            clear hcq hbl
            obtain ⟨gs, gA, gC, hgl, rfl, rfl, hgi⟩ := hrel
            clear HGI
            by_cases hlt2 : gs.length < k
            · obtain ⟨r, hr⟩ : ∃ r, rs[gs.length]? = some r := ⟨_, List.getElem?_eq_getElem (by rw [← HML.out]; exact hlt2)⟩
              obtain ⟨bL, oL, hAL, hbL, hcL⟩ := Rw.at1 HLL.out hr
              subst hAL
              have hcw : wr.cell? ⟨bL, oL + gs.length, none⟩ = some (.slice r.A r.N r.C) := (hgi.frm.cell (p := ⟨bL, oL + gs.length, none⟩) hbL (HSL.out bL ⟨_, rfl, rfl⟩)).trans hcL
              have hlw := Nat.lt_of_lt_of_le hbL hgi.frm.size
              have hk0 : (0 : Int) ≤ gs.length := by omega
              have hk1 : (gs.length : Int) < k := by omega
              have hro := hgi.rows gs.length r hr
              have hNr := HN.out gs.length r hr
              have H0R := Lib.hid (Own.row hro)
              have HDI := Lib.hid (DI.start hro)
              have HGI := Lib.hid hgi
              have HR := Lib.hid hr
              clear hcL hbL hro hgi hr
              obtain ⟨rA, rN, rC⟩ := r
              simp only at hNr hcw
              obtain ⟨wk, rfl⟩ : ∃ z, z = wr := ⟨_, rfl⟩
              go_wp2
              go_loopw [11, 12, 52] (fun g u j wi => ∃ (t : Nat) (hA : Option Addr) (hC : Nat) (mA : Option Addr) (mC gN : Nat), t ≤ 20 ∧ gN = cond many rN (rN + t) ∧ j = .int .i64 t ∧ u = .slice mA t mC ∧ g = .slice hA gN hC ∧ DI wk gs.length ⟨rA, rN, rC⟩ wi hA gN hC mA t mC) (fun _ _ j _ => 20 - (intOf j).toNat)
              case atStart => exact ⟨0, rA, rC, none, 0, rN, by omega, by cases many <;> rfl, rfl, rfl, rfl, HDI.out⟩
              case round =>
                clear HDI hcw hlw
                obtain ⟨t, hA, hC, mA, mC, gN, ht, hgN, rfl, rfl, rfl, hdi⟩ := hrel
                have HDI := Lib.hid hdi
                clear hdi
                by_cases hlt3 : t < 20
                · have ht0 : (0 : Int) ≤ t := by omega
                  have ht1 : (t : Int) < 20 := by omega
                  have hwr1 : IntKind.i64.wrap ((rN : Int) + (t : Int)) = (rN : Int) + (t : Int) := IntWalk.i64_in _ (by omega)
                  have hm1 := mark_any gs.length (rN + t) wr (by omega) (by omega)
                  rw [Int.natCast_add] at hm1
                  go_upto_region 22 with fail
                  refine wp_region_lit ?_
                  refine wpList_read 6 ?_
                  simp only [List.take_succ_cons, List.take_zero, List.drop_succ_cons, List.drop_zero]
                  repeat (any_goals (first | go_big_quiet_step (fail) | quiet_step (fail)))
                  refine wpQuiet_nil ?_
                  refine wpList_plain rfl fun K hK => ?_
                  go_simp
                  refine hm1.mono ?_
                  rintro e w9 ⟨rfl, rfl⟩
                  refine hK _ _ ?_
                  clear hK K
                  refine wpList_plain rfl fun K hK => ?_
                  go_simp
                  refine hK _ _ ?_
                  clear hK K
                  refine list_world fun wc hwc => ?_
                  have hsc : Same wr wc := by rw [hwc]; exact (Frm.refl _ _).alloc _
                  have hNc := Blk.new wr 38 #[.int .u64 (mkN gs.length (rN + t) : Nat)]
                  rw [← hwc] at hNc
                  clear hwc
                  refine wpList_plain rfl fun K hK => ?_
                  refine Own.grow (f := ucell) (.tmp 55) (.tmp 62) _ rfl Try.underlying22 info_u64 rfl rfl (Own.frm HDI.out.more hsc (fun _ _ => id)) ucell_len [mkN gs.length (rN + t)] (by simp) ⟨wr.heap.size, 0, none⟩ 1 rfl (fun j u hj => news_of_blk hNc j u hj) (by simp [ucell, Value.oneCell']) (by simp [maxLen]; omega) (by simp; omega) ?_
                  intro x C' wd hOd _ hgr hat
                  refine hK _ _ ?_
                  clear hK K
                  have HD2 := Lib.hid (DI.stepM HDI.out H0R.out hsc hgr hOd hat)
                  clear hgr hOd hat hNc hsc HDI hm1
                  obtain ⟨wq, rfl⟩ : ∃ z, z = wr := ⟨_, rfl⟩
                  obtain ⟨wr, rfl⟩ : ∃ z, z = wd := ⟨_, rfl⟩
                  cases many with
                  | true =>
                    simp only [cond_true] at hgN
                    subst hgN
                    go_wp2
                    go_roundw
                    case rel => exact ⟨t + 1, _, _, _, _, _, by omega, rfl, by go_num, rfl, rfl, HD2.out⟩
                    case measure => simp [intOf]; omega
                  | false =>
                    have hm1 := mark_any gs.length (rN + t) wr (by omega) (by omega)
                    rw [Int.natCast_add] at hm1
                    simp only [cond_false] at hgN
                    subst hgN
                    go_upto_region 24 with fail
                    refine wp_region_lit ?_
                    refine wpList_read 6 ?_
                    simp only [List.take_succ_cons, List.take_zero, List.drop_succ_cons, List.drop_zero]
                    repeat (any_goals (first | go_big_quiet_step (fail) | quiet_step (fail)))
                    refine wpQuiet_nil ?_
                    refine wpList_plain rfl fun K hK => ?_
                    go_simp
                    refine hm1.mono ?_
                    rintro e w9 ⟨rfl, rfl⟩
                    refine hK _ _ ?_
                    clear hK K
                    refine wpList_plain rfl fun K hK => ?_
                    go_simp
                    refine hK _ _ ?_
                    clear hK K
                    refine list_world fun wc hwc => ?_
                    have hsc : Same wr wc := by rw [hwc]; exact (Frm.refl _ _).alloc _
                    have hNc := Blk.new wr 38 #[.int .u64 (mkN gs.length (rN + t) : Nat)]
                    rw [← hwc] at hNc
                    clear hwc
                    refine wpList_plain rfl fun K hK => ?_
                    refine Own.grow (f := ucell) (.tmp 66) (.tmp 73) _ rfl Try.underlying22 info_u64 rfl rfl (Own.frm HD2.out.g hsc (fun _ _ => id)) ucell_len [mkN gs.length (rN + t)] (by simp) ⟨wr.heap.size, 0, none⟩ 1 rfl (fun j u hj => news_of_blk hNc j u hj) (by simp [ucell, Value.oneCell']) (by simp [maxLen]; omega) (by simp; omega) ?_
                    intro x C' wd hOd _ hgr hat
                    refine hK _ _ ?_
                    clear hK K
                    have HD3 := Lib.hid (DI.stepG HD2.out H0R.out hsc hgr hOd (marks_succ _ _).symm hat)
                    clear hgr hOd hat hNc hsc HD2 hm1
                    go_wp2
                    go_roundw
                    case rel => exact ⟨t + 1, _, _, _, _, rN + (t + 1), by omega, rfl, by go_num, rfl, rfl, HD3.out⟩
                    case measure => simp [intOf]; omega
                · obtain rfl : t = 20 := by omega
                  cases many with
                  | true =>
                    simp only [cond_true] at hgN
                    subst hgN
                    obtain ⟨ys, hys⟩ : ∃ ys, ys = (List.range 20).map (fun t => mkN gs.length (gN + t)) := ⟨_, rfl⟩
                    have hyl : ys.length = 20 := by rw [hys]; simp
                    obtain ⟨ad, hmA, hsrc⟩ := wl_src (HDI.out.more.sl ucell_len) (fun h => by have := congrArg List.length h; simp at this)
                    rw [← hys] at hsrc
                    subst hmA
                    have hmk := (marks_add gs.length gN 20).symm
                    rw [← hys] at hmk
                    go_upto_region 27 with fail
                    refine wp_region_lit ?_
                    refine wpList_read 2 ?_
                    simp only [List.take_succ_cons, List.take_zero, List.drop_succ_cons, List.drop_zero]
                    repeat (any_goals (first | go_big_quiet_step (fail) | quiet_step (fail)))
                    refine wpQuiet_nil ?_
                    refine wpList_plain rfl fun K hK => ?_
                    refine Own.grow (f := ucell) (.tmp 77) (.tmp 78) _ rfl Try.underlying22 info_u64 rfl rfl HDI.out.g ucell_len ys (by omega) ad mC (by rw [hyl]; rfl) hsrc (by simp [ucell, Value.oneCell']) (by rw [hyl]; simp [maxLen]; omega) (by rw [hyl]; omega) ?_
                    intro x C' wd hOd _ hgr hat
                    refine hK _ _ ?_
                    clear hK K
                    have hd3 := DI.stepG HDI.out H0R.out (Frm.refl _ _) hgr hOd (by rw [hyl]; exact hmk) hat
                    rw [hyl] at hd3
                    simp only [hyl]
                    replace HDI := Lib.hid hd3
                    clear hgr hOd hat hd3 hsrc hmk hys hyl
                    obtain ⟨wq, rfl⟩ : ∃ z, z = wr := ⟨_, rfl⟩
                    obtain ⟨wr, rfl⟩ : ∃ z, z = wd := ⟨_, rfl⟩
                    obtain ⟨hC2, rfl⟩ : ∃ z, z = C' := ⟨_, rfl⟩
                    have HGA := Lib.hid (fun (wa : World) (hs : Same wr wa) => GI.grownAt HGI.out HR.out HS1.out HSW.out HDI.out hs)
                    go_upto_region 28 with fail
                    refine wp_region_lit ?_
                    refine wpList_read 2 ?_
                    simp only [List.take_succ_cons, List.take_zero, List.drop_succ_cons, List.drop_zero]
                    repeat (any_goals (first | go_big_quiet_step (fail) | quiet_step (fail)))
                    refine wpQuiet_nil ?_
                    refine wpList_plain rfl fun K hK => ?_
                    go_simp
                    refine hK _ _ ?_
                    clear hK K
                    refine list_world fun wc hwc => ?_
                    have hsc : Same wr wc := by rw [hwc]; exact (Frm.refl _ _).alloc _
                    have hNc := Blk.new wr 22 #[.slice (some ⟨x, 0, none⟩) (gN + 20) hC2]
                    rw [← hwc] at hNc
                    clear hwc
                    refine wpList_plain rfl fun K hK => ?_
                    refine Own.grow (f := rcell) (.tmp 80) (.tmp 82) _ rfl Try.underlying75 info_sl rfl rfl (HGA.out wc hsc) rcell_len [⟨(some ⟨x, 0, none⟩), gN + 20, hC2⟩] (by simp) ⟨wr.heap.size, 0, none⟩ 1 rfl (fun j u hj => news_of_blk hNc j u hj) (by simp [rcell, Value.oneCell']) (by simp [maxLen]; omega) (by simp; omega) ?_
                    intro y C' wd hOd _ hgr hat
                    refine hK _ _ ?_
                    clear hK K
                    have hnx := GI.next HGI.out HR.out HD.out HS1.out HSW.out HDI.out hsc hgr hOd hat
                    have HNX := Lib.hid hnx
                    clear hgr hOd hat hNc hsc HGA HDI HGI hnx
                    go_wp2
                    go_roundw
                    case rel => exact ⟨gs ++ [⟨(some ⟨x, 0, none⟩), gN + 20, hC2⟩], some ⟨y, 0, none⟩, C', by simp only [List.length_append, List.length_cons, List.length_nil]; omega, by rw [List.length_append]; go_num, by simp, HNX.out⟩
                    case measure => simp [intOf]; omega
                  | false =>
                    simp only [cond_false] at hgN
                    subst hgN
                    have HGA := Lib.hid (fun (wa : World) (hs : Same wr wa) => GI.grownAt HGI.out HR.out HS1.out HSW.out HDI.out hs)
                    go_upto_region 28 with fail
                    refine wp_region_lit ?_
                    refine wpList_read 2 ?_
                    simp only [List.take_succ_cons, List.take_zero, List.drop_succ_cons, List.drop_zero]
                    repeat (any_goals (first | go_big_quiet_step (fail) | quiet_step (fail)))
                    refine wpQuiet_nil ?_
                    refine wpList_plain rfl fun K hK => ?_
                    go_simp
                    refine hK _ _ ?_
                    clear hK K
                    refine list_world fun wc hwc => ?_
                    have hsc : Same wr wc := by rw [hwc]; exact (Frm.refl _ _).alloc _
                    have hNc := Blk.new wr 22 #[.slice hA (rN + 20) hC]
                    rw [← hwc] at hNc
                    clear hwc
                    refine wpList_plain rfl fun K hK => ?_
                    refine Own.grow (f := rcell) (.tmp 80) (.tmp 82) _ rfl Try.underlying75 info_sl rfl rfl (HGA.out wc hsc) rcell_len [⟨hA, rN + 20, hC⟩] (by simp) ⟨wr.heap.size, 0, none⟩ 1 rfl (fun j u hj => news_of_blk hNc j u hj) (by simp [rcell, Value.oneCell']) (by simp [maxLen]; omega) (by simp; omega) ?_
                    intro y C' wd hOd _ hgr hat
                    refine hK _ _ ?_
                    clear hK K
                    have hnx := GI.next HGI.out HR.out HD.out HS1.out HSW.out HDI.out hsc hgr hOd hat
                    have HNX := Lib.hid hnx
                    clear hgr hOd hat hNc hsc HGA HDI HGI hnx
                    go_wp2
                    go_roundw
                    case rel => exact ⟨gs ++ [⟨hA, rN + 20, hC⟩], some ⟨y, 0, none⟩, C', by simp only [List.length_append, List.length_cons, List.length_nil]; omega, by rw [List.length_append]; go_num, by simp, HNX.out⟩
                    case measure => simp [intOf]; omega
            · obtain rfl : gs.length = k := by omega
              have HGI := Lib.hid hgi
              clear hgi
              go_wp2
              go_loopw [87] (fun q wi => ∃ i : Nat, i ≤ gs.length ∧ q = .int .i64 i ∧ wi = wr) (fun q _ => gs.length - (intOf q).toNat)
              case atStart => exact ⟨0, by omega, rfl, rfl⟩
              case round =>
                obtain ⟨i, hi, rfl, rfl⟩ := hrel
                by_cases hil : i < gs.length
                · obtain ⟨g, hg⟩ : ∃ g, gs[i]? = some g := ⟨_, List.getElem?_eq_getElem hil⟩
                  obtain ⟨r, hr⟩ : ∃ r, rs[i]? = some r := ⟨_, List.getElem?_eq_getElem (by rw [← HML.out]; exact hil)⟩
                  obtain ⟨bG, oG, hAG, hbG, hcG⟩ := Rw.at1 (HGI.out.grown.sl rcell_len) hg
                  obtain ⟨bL, oL, hAL, hbL, hcL⟩ := Rw.at1 HLL.out hr
                  subst hAG hAL
                  have hcw : wr.cell? ⟨bL, oL + i, none⟩ = some (.slice r.A r.N r.C) := (HGI.out.frm.cell (p := ⟨bL, oL + i, none⟩) hbL (HSL.out bL ⟨_, rfl, rfl⟩)).trans hcL
                  have hlw := Nat.lt_of_lt_of_le hbL HGI.out.frm.size
                  obtain ⟨e1, e2, _⟩ := HGI.out.each i g r hg hr
                  have hNr := HN.out i r hr
                  have E2 := Lib.hid e2
                  have hro := HGI.out.rows i r hr
                  have HRO := Lib.hid hro
                  have hi0 : (0 : Int) ≤ i := by omega
                  have hi1 : (i : Int) < gs.length := by omega
                  clear hg hr e2 hro hcL hbL
                  obtain ⟨rA, rN, rC⟩ := r
                  obtain ⟨gA1, gN1, gC1⟩ := g
                  simp only at hcw hcG e1 E2 HRO hNr
                  subst e1
                  go_wp2
                  obtain ⟨wz, rfl⟩ : ∃ z, z = wr := ⟨_, rfl⟩
                  go_loopw [94] (fun q wi => ∃ j : Nat, j ≤ rN + 20 ∧ q = .int .i64 j ∧ wi = wz) (fun q _ => rN + 20 - (intOf q).toNat)
                  case atStart => exact ⟨0, by omega, rfl, rfl⟩
                  case round =>
                    obtain ⟨j, hj, rfl, hwz⟩ := hrel
                    subst hwz
                    have hm1 := mark_any i j wr (by omega) (by omega)
                    by_cases hjl : j < rN + 20
                    · have hj0 : (0 : Int) ≤ j := by omega
                      have hj1 : (j : Int) < (rN : Int) + 20 := by omega
                      obtain ⟨bg, hA1, hb1, hc1⟩ := Own.at1 (c := fun x : Nat => .int .u64 (x : Int)) E2.out (marks_get hjl)
                      subst hA1
                      by_cases hjr : j < rN
                      · have hjr1 : (j : Int) < rN := by omega
                        obtain ⟨bq, hA2, hb2, hc2⟩ := Own.at1 (c := fun x : Nat => .int .u64 (x : Int)) HRO.out (marks_get hjr)
                        subst hA2
                        go_wp2_with (fail)
                        refine hm1.mono ?_
                        rintro e w9 ⟨rfl, rfl⟩
                        go_wp2
                        go_roundw
                        case rel => exact ⟨j + 1, by omega, by go_num, by trivial⟩
                        case measure => simp [intOf]; omega
                      · have hjr1 : ¬ (j : Int) < rN := by omega
                        go_wp2_with (fail)
                        refine hm1.mono ?_
                        rintro e w9 ⟨rfl, rfl⟩
                        go_wp2
                        go_roundw
                        case rel => exact ⟨j + 1, by omega, by go_num, by trivial⟩
                        case measure => simp [intOf]; omega
                    · obtain rfl : j = rN + 20 := by omega
                      go_wp2
                      go_roundw
                      case rel => exact ⟨i + 1, by omega, by go_num, by trivial⟩
                      case measure => simp [intOf]; omega
                · obtain rfl : i = gs.length := by omega
                  go_wp2
                  go_roundw
                  case rel => exact ⟨t0 + 1, by omega, by go_num, HGI.out.frm, HGI.out.bools, HGI.out.rows⟩
                  case measure => simp [intOf]; omega
        · obtain rfl : t0 = 2 := by omega
          go_wp2
          go_ret
          exact ⟨rfl, hf⟩

end Go.Proofs.Ytlggmoghgoeiiaa


/- Truth tables: answers. -/
namespace Go.Proofs.Ytlggmoghgoeiiaa
open Go.RowKit Go.Tk

abbrev Cn := Int × List Nat
/-- a table in a list -/
structure Tt where
  N : Int
  A : Option Addr
  n : Nat
  C : Nat
def ttcell (t : Tt) : List Value := [.int .i64 t.N, .slice t.A t.n t.C]
theorem ttcell_len (t : Tt) : (ttcell t).length = 2 := rfl
theorem info_tab : (Try.prog.info? 24).map (fun i => (i.zero, i.size, i.bytes)) = some (some (.agg #[.int .i64 0, .slice none 0 0]), 2, 32) := by kernel_rfl
/-- tables of their own words, each of its contents -/
structure TL (h0 : Nat) (w : World) (ts : List Tt) (cs : List Cn) : Prop where
  len : ts.length = cs.length
  own : ∀ (i : Nat) (t : Tt), ts[i]? = some t → ∃ c, cs[i]? = some c ∧ t.N = c.1 ∧ OwnW w t.A t.n t.C c.2
  fresh : ∀ (i : Nat) (t : Tt), ts[i]? = some t → Fresh h0 t.A
  dis : ∀ (i j : Nat) (t u : Tt), ts[i]? = some t → ts[j]? = some u → i ≠ j → ∀ b, rowOf t.A b → ¬ rowOf u.A b
theorem TL.nil (h0 : Nat) (w : World) : TL h0 w [] [] := ⟨rfl, fun i t h => by simp at h, fun i t h => by simp at h, fun i j t u h => by simp at h⟩
theorem TL.row {h0 : Nat} {w : World} {ts : List Tt} {cs : List Cn} (h : TL h0 w ts cs) {i : Nat} {t : Tt} (hi : ts[i]? = some t) : ∀ b, rowOf t.A b → b < w.heap.size := by
  obtain ⟨c, _, _, ho⟩ := h.own i t hi
  exact Own.row ho
theorem TL.frm {h0 : Nat} {w w' : World} {S : Nat → Prop} {ts : List Tt} {cs : List Cn} (h : TL h0 w ts cs) (hf : Frm S w w') (hn : ∀ (i : Nat) (t : Tt), ts[i]? = some t → ∀ b, rowOf t.A b → ¬ S b) : TL h0 w' ts cs :=
  ⟨h.len, fun i t hi => by obtain ⟨c, h1, h2, h3⟩ := h.own i t hi; exact ⟨c, h1, h2, frm_own h3 hf (hn i t hi)⟩, h.fresh, h.dis⟩
theorem TL.same {h0 : Nat} {w w' : World} {ts : List Tt} {cs : List Cn} (h : TL h0 w ts cs) (hf : Same w w') : TL h0 w' ts cs := h.frm hf (fun _ _ _ _ _ => id)
theorem TL.grown {h0 : Nat} {w w' : World} {row : Option Nat} {ts : List Tt} {cs : List Cn} (h : TL h0 w ts cs) (hg : w.grownBy w' row) (hn : ∀ (i : Nat) (t : Tt), ts[i]? = some t → ∀ b, row = some b → ¬ rowOf t.A b) : TL h0 w' ts cs :=
  ⟨h.len, fun i t hi => by obtain ⟨c, h1, h2, h3⟩ := h.own i t hi; exact ⟨c, h1, h2, Own.keptBy h3 hg (hn i t hi)⟩, h.fresh, h.dis⟩
theorem TL.far {h0 : Nat} {w : World} {ts : List Tt} {cs : List Cn} (h : TL h0 w ts cs) {p : Addr} (u : Value) (hn : ∀ (i : Nat) (t : Tt), ts[i]? = some t → ¬ rowOf t.A p.block) : TL h0 (w.setCell p u) ts cs :=
  ⟨h.len, fun i t hi => by obtain ⟨c, h1, h2, h3⟩ := h.own i t hi; exact ⟨c, h1, h2, Own.far h3 (fun a ha he => hn i t hi ⟨a, ha, he⟩) _⟩, h.fresh, h.dis⟩
theorem snoc_cases {α : Type} {xs : List α} {x y : α} {i : Nat} (h : (xs ++ [x])[i]? = some y) : xs[i]? = some y ∨ (i = xs.length ∧ y = x) := by
  rcases Nat.lt_or_ge i xs.length with hl | hl
  · rw [List.getElem?_append_left hl] at h; exact .inl h
  · rw [List.getElem?_append_right hl] at h
    cases hk : i - xs.length with
    | zero => rw [hk] at h; simp at h; exact .inr ⟨by omega, h.symm⟩
    | succ k => rw [hk] at h; simp at h
theorem lt_of_get {α : Type} {xs : List α} {y : α} {i : Nat} (h : xs[i]? = some y) : i < xs.length := by
  rcases Nat.lt_or_ge i xs.length with hl | hl
  · exact hl
  · rw [List.getElem?_eq_none hl] at h; cases h
theorem TL.snoc {h0 : Nat} {w w' : World} {ts : List Tt} {cs : List Cn} (h : TL h0 w ts cs) (hh : h0 ≤ w.heap.size) {N : Int} {ws : List Nat} {A : Option Addr} {C : Nat} (hN : NewT w ws A C w') : TL h0 w' (ts ++ [⟨N, A, ws.length, C⟩]) (cs ++ [(N, ws)]) := by
  obtain ⟨ho, hf, hs⟩ := hN
  refine ⟨by simp [h.len], fun i t hi => ?_, fun i t hi => ?_, fun i j t u hi hj hne => ?_⟩
  · rcases snoc_cases hi with h1 | ⟨rfl, rfl⟩
    · obtain ⟨c, h2, h3, h4⟩ := h.own i t h1
      exact ⟨c, by rw [List.getElem?_append_left (lt_of_get h2)]; exact h2, h3, Own.frm h4 hs (fun _ _ => id)⟩
    · exact ⟨(N, ws), by rw [h.len]; simp, rfl, ho⟩
  · rcases snoc_cases hi with h1 | ⟨rfl, rfl⟩
    · exact h.fresh i t h1
    · intro b hb
      have := hf b hb
      omega
  · rcases snoc_cases hi with h1 | ⟨rfl, rfl⟩
    · rcases snoc_cases hj with h2 | ⟨rfl, rfl⟩
      · exact h.dis i j t u h1 h2 hne
      · intro b hb hr
        have := hf b hr
        have := h.row h1 b hb
        omega
    · rcases snoc_cases hj with h2 | ⟨rfl, rfl⟩
      · intro b hb hr
        have := hf b hb
        have := h.row h2 b hr
        omega
      · exact absurd rfl hne
/-- a call's table, its contents -/
def RetC (w : World) (c : Cn) (e : Ending) (w' : World) : Prop := ∃ A C err, e = .returned (.tuple #[.agg #[.int .i64 c.1, .slice A c.2.length C], .int .i64 err]) ∧ NewT w c.2 A C w'
def rcN (n : Int) (L : List Nat) (e : Int) : Cn := (ansN n e, ansL L e)
theorem RetA.cn {w : World} {n : Int} {L : List Nat} {err : Int} {e : Ending} {w' : World} (h : RetA w n L err e w') : RetC w (rcN n L err) e w' := by
  obtain ⟨A, C, h1, h2⟩ := h
  exact ⟨A, C, err, h1, h2⟩
/-- within answers -/
structure AN (w1 w : World) (B : Nat) (LA : Option Addr) (LC k : Nat) (ts us : List Tt) (cs : List Cn) (x y : Value) : Prop where
  same : Same w1 w
  list : Own w 24 2 ttcell LA k LC ts
  tl : TL w1.heap.size w us cs
  lf : Fresh w1.heap.size LA
  dis : ∀ (i : Nat) (t : Tt), us[i]? = some t → ∀ b, rowOf LA b → ¬ rowOf t.A b
  blk : Blk w B 24 #[x, y]
  bw : w1.heap.size ≤ B
  bl : ¬ rowOf LA B
  bt : ∀ (i : Nat) (t : Tt), us[i]? = some t → ¬ rowOf t.A B
theorem AN.start {w1 w w2 w3 : World} {N : Int} {ws : List Nat} {A : Option Addr} {C : Nat} (hs : Same w1 w) (hN : NewT w ws A C w2) (hw : w3 = w2.alloc (.cells #[.int .i64 N, .slice A ws.length C] 24)) : AN w1 w3 w2.heap.size none 0 0 [] [⟨N, A, ws.length, C⟩] [(N, ws)] (.int .i64 N) (.slice A ws.length C) := by
  have h1 := (TL.nil w1.heap.size w).snoc (N := N) hs.size hN
  have hs3 : Same w2 w3 := by rw [hw]; exact (Frm.refl _ _).alloc _
  have h2 := h1.same hs3
  simp only [List.nil_append] at h1 h2
  refine ⟨(hs.trans hN.2.2 (fun _ _ h => h)).trans hs3 (fun _ _ h => h), Own.nil _ _ _ _, h2, fresh_none _, fun i t _ b hb => ?_, by rw [hw]; exact Blk.new _ _ _, Nat.le_trans hs.size hN.2.2.size, ?_, fun i t hi hb => ?_⟩
  · obtain ⟨a, ha, _⟩ := hb; cases ha
  · rintro ⟨a, ha, _⟩; cases ha
  · have := h1.row hi _ hb
    omega
theorem AN.call {w1 w w2 : World} {B : Nat} {LA : Option Addr} {LC k : Nat} {ts us : List Tt} {cs : List Cn} {x y : Value} (h : AN w1 w B LA LC k ts us cs x y) {N : Int} {ws : List Nat} {A : Option Addr} {C : Nat} (hN : NewT w ws A C w2) : AN w1 w2 B LA LC k ts (us ++ [⟨N, A, ws.length, C⟩]) (cs ++ [(N, ws)]) x y := by
  refine ⟨h.same.trans hN.2.2 (fun _ _ h => h), Own.frm h.list hN.2.2 (fun _ _ => id), h.tl.snoc h.same.size hN, h.lf, fun i t hi b hb hr => ?_, h.blk.frm hN.2.2 id, h.bw, h.bl, fun i t hi hb => ?_⟩
  · rcases snoc_cases hi with h1 | ⟨rfl, rfl⟩
    · exact h.dis i t h1 b hb hr
    · have := hN.2.1 b hr
      have := Own.row h.list b hb
      omega
  · rcases snoc_cases hi with h1 | ⟨rfl, rfl⟩
    · exact h.bt i t h1 hb
    · have := hN.2.1 _ hb
      have := h.blk.lt
      omega
theorem AN.store {w1 w w' : World} {B : Nat} {LA : Option Addr} {LC k : Nat} {ts us : List Tt} {cs : List Cn} {x y : Value} (h : AN w1 w B LA LC k ts us cs x y) {x' y' : Value} (hw : w' = (w.setCell ⟨B, 0, none⟩ x').setCell ⟨B, 1, none⟩ y') : AN w1 w' B LA LC k ts us cs x' y' := by
  subst hw
  refine ⟨(h.same.setNew 0 _ h.bw).setNew 1 _ h.bw, Own.far (p := ⟨B, 1, none⟩) (Own.far (p := ⟨B, 0, none⟩) h.list (fun a ha he => h.bl ⟨a, ha, he⟩) _) (fun a ha he => h.bl ⟨a, ha, he⟩) _, (h.tl.far (p := ⟨B, 0, none⟩) x' h.bt).far (p := ⟨B, 1, none⟩) y' h.bt, h.lf, h.dis, ?_, h.bw, h.bl, h.bt⟩
  have := (h.blk.set 0 x').set 1 y'
  simpa using this
theorem AN.app {w1 w wa wb : World} {B : Nat} {LA : Option Addr} {LC k : Nat} {ts us : List Tt} {cs : List Cn} {x y : Value} (h : AN w1 w B LA LC k ts us cs x y) {t : Tt} {g C' : Nat} (hs : Same w wa) (hg : wa.grownBy wb (Value.slice LA k LC).ownBlock) (ho : Own wb 24 2 ttcell (some ⟨g, 0, none⟩) (k + 1) C' (ts ++ [t]))
    (hat : (LA = some ⟨g, 0, none⟩ ∧ C' = LC) ∨ (g = wa.heap.size ∧ wa.grownBy wb none)) : AN w1 wb B (some ⟨g, 0, none⟩) C' (k + 1) (ts ++ [t]) us cs x y := by
  have hsz := h.same.size
  have hsz2 := hs.size
  have hb0 := h.blk.lt
  refine ⟨(h.same.trans hs (fun _ _ h => h)).grown hg (fun g hg => .inr (h.lf g (rw_own hg))), ho, (h.tl.same hs).grown hg (fun i t hi b hb hr => h.dis i t hi b (rw_own hb) hr), ?_, fun i t hi b hb hr => ?_, (h.blk.frm hs id).grown hg (fun he => h.bl (rw_own he.symm)), h.bw, fun hb => ?_, h.bt⟩
  · rcases hat with ⟨h1, _⟩ | ⟨h1, _⟩
    · rw [← h1]; exact h.lf
    · exact fresh_some (by omega)
  · rcases hat with ⟨h1, _⟩ | ⟨h1, _⟩
    · exact h.dis i t hi b (by rw [h1]; exact hb) hr
    · have := h.tl.row hi b hr
      have := rw_some.1 hb
      omega
  · rcases hat with ⟨h1, _⟩ | ⟨h1, _⟩
    · exact h.bl (by rw [h1]; exact hb)
    · have := rw_some.1 hb
      omega
theorem AN.other {w1 w w' : World} {B : Nat} {LA : Option Addr} {LC k : Nat} {ts us : List Tt} {cs : List Cn} {x y : Value} (h : AN w1 w B LA LC k ts us cs x y) (hs : Same w w') : AN w1 w' B LA LC k ts us cs x y :=
  ⟨h.same.trans hs (fun _ _ h => h), Own.frm h.list hs (fun _ _ => id), h.tl.same hs, h.lf, h.dis, h.blk.frm hs id, h.bw, h.bl, h.bt⟩
theorem Fresh.less {A : Option Addr} {n m : Nat} (h : Fresh n A) (hm : m ≤ n) : Fresh m A := fun b hb => Nat.le_trans hm (h b hb)
theorem TL.less {h0 h1 : Nat} {w : World} {ts : List Tt} {cs : List Cn} (h : TL h0 w ts cs) (hl : h1 ≤ h0) : TL h1 w ts cs := ⟨h.len, h.own, fun i t hi => Fresh.less (h.fresh i t hi) hl, h.dis⟩
/-- a list of new tables -/
def RetTs (w : World) (k : Nat) (cs : List Cn) (e : Ending) (w' : World) : Prop := ∃ g LC ts, e = .returned (.slice (some ⟨g, 0, none⟩) k LC) ∧ Same w w' ∧ Own w' 24 2 ttcell (some ⟨g, 0, none⟩) k LC ts ∧ TL w.heap.size w' ts cs ∧ w.heap.size ≤ g ∧ (∀ (i : Nat) (t : Tt), ts[i]? = some t → ¬ rowOf t.A g)
set_option maxRecDepth 100000 in
set_option maxHeartbeats 16000000 in
theorem answers_gen (Na : Int) (Aa : Option Addr) (Ca : Nat) (wsa : List Nat) (Nb : Int) (Ab : Option Addr) (Cb : Nat) (wsb : List Nat) (v : Int) (Ap : Option Addr) (Lp Cp : Nat) (opL : List Cn) (hol : opL.length = 3) (n0 : Int) (L0 : List Nat) (n4 : Int) (L4 : List Nat) (n5 : Int) (L5 : List Nat) (n6 : Int) (L6 : List Nat) (n7 : Int) (L7 : List Nat) (n8 : Int) (L8 : List Nat) (n9 : Int) (L9 : List Nat) (n10 : Int) (L10 : List Nat) (w : World)
    (H0 : ∀ w', Same w w' → Calls Try.prog 29 #[.agg #[.int .i64 Na, .slice Aa wsa.length Ca]] w' (RetC w' (n0, L0)))
    (HO : ∀ j, j < 3 → ∃ op n L, [6, 10, 12][j]? = some op ∧ opL[j]? = some (n, L) ∧ ∀ w', Same w w' → Calls Try.prog 31 #[.int .u8 (op : Nat), .agg #[.int .i64 Na, .slice Aa wsa.length Ca], .agg #[.int .i64 Nb, .slice Ab wsb.length Cb]] w' (RetC w' (n, L)))
    (H4 : ∀ w', Same w w' → Calls Try.prog 33 #[.agg #[.int .i64 Na, .slice Aa wsa.length Ca], .agg #[.int .i64 Nb, .slice Ab wsb.length Cb], .agg #[.int .i64 Na, .slice Aa wsa.length Ca]] w' (RetC w' (n4, L4)))
    (H5 : ∀ w', Same w w' → Calls Try.prog 33 #[.agg #[.int .i64 Nb, .slice Ab wsb.length Cb], .agg #[.int .i64 Nb, .slice Ab wsb.length Cb], .agg #[.int .i64 Nb, .slice Ab wsb.length Cb]] w' (RetC w' (n5, L5)))
    (H6 : ∀ w', Same w w' → Calls Try.prog 14 #[.agg #[.int .i64 Na, .slice Aa wsa.length Ca], .int .i64 v, .bool true] w' (RetC w' (n6, L6)))
    (H7 : ∀ w', Same w w' → Calls Try.prog 18 #[.agg #[.int .i64 Na, .slice Aa wsa.length Ca], .int .i64 v] w' (RetC w' (n7, L7)))
    (H8 : ∀ w', Same w w' → Calls Try.prog 38 #[.agg #[.int .i64 Na, .slice Aa wsa.length Ca], .slice Ap Lp Cp] w' (RetC w' (n8, L8)))
    (H9 : ∀ w', Same w w' → Calls Try.prog 25 #[.int .i64 (min Na 8), .bool true] w' (RetC w' (n9, L9)))
    (H10 : ∀ w', Same w w' → Calls Try.prog 27 #[.int .i64 (min Na 8), .int .i64 v] w' (RetC w' (n10, L10)))
    : Calls Try.prog 46 #[.agg #[.int .i64 Na, .slice Aa wsa.length Ca], .agg #[.int .i64 Nb, .slice Ab wsb.length Cb], .int .i64 v, .slice Ap Lp Cp] w (RetTs w 11 ([(n0, L0)] ++ opL ++ [(n4, L4)] ++ [(n5, L5)] ++ [(n6, L6)] ++ [(n7, L7)] ++ [(n8, L8)] ++ [(n9, L9)] ++ [(n10, L10)])) := by
  have HH0 := Lib.hid H0
  have HHO := Lib.hid HO
  have HOL := Lib.hid hol
  clear H0 HO hol
  have HH4 := Lib.hid H4
  clear H4
  have HH5 := Lib.hid H5
  clear H5
  have HH6 := Lib.hid H6
  clear H6
  have HH7 := Lib.hid H7
  clear H7
  have HH8 := Lib.hid H8
  clear H8
  have HH9 := Lib.hid H9
  clear H9
  have HH10 := Lib.hid H10
  clear H10
  go_enter Try.func46, Try.ntmps46
  go_upto_region 1 with fail
  refine wp_world fun w1 hw1 => ?_
  have hs1 : Same w w1 := by rw [hw1]; exact ((Frm.refl _ _).alloc _).alloc _
  have hBX : Blk w1 (w.heap.size) 24 #[.int .i64 Na, .slice Aa wsa.length Ca] := by
    rw [hw1]
    have := ((Blk.new w 24 #[.int .i64 Na, .slice Aa wsa.length Ca]).alloc (.cells #[.int .i64 Nb, .slice Ab wsb.length Cb] 24))
    simpa using this
  have hBY : Blk w1 (w.heap.size + 1) 24 #[.int .i64 Nb, .slice Ab wsb.length Cb] := by
    rw [hw1]
    have := (Blk.new (w.alloc (.cells #[.int .i64 Na, .slice Aa wsa.length Ca] 24)) 24 #[.int .i64 Nb, .slice Ab wsb.length Cb])
    simpa using this
  clear hw1
  obtain ⟨Y, hY⟩ : ∃ b, w.heap.size + 1 = b := ⟨_, rfl⟩
  obtain ⟨X, hX⟩ : ∃ b, w.heap.size = b := ⟨_, rfl⟩
  rw [hY] at hBY ⊢
  rw [hX] at hBX ⊢
  clear hX hY
  have HS1 := Lib.hid hs1
  have HBX := Lib.hid hBX
  have HBY := Lib.hid hBY
  have cX0 : w1.cell? ⟨X, 0, none⟩ = some (.int .i64 Na) := hBX.cell 0
  have cX1 : w1.cell? ⟨X, 1, none⟩ = some (.slice Aa wsa.length Ca) := hBX.cell 1
  have lX := hBX.lt
  clear hs1 hBX hBY
  go_wp2_with (fail)
  refine (HH0.out w1 HS1.out).mono ?_
  rintro e w2 ⟨A0, C0, er, rfl, hNT⟩
  clear cX0 cX1 lX
  go_upto_region 3 with fail
  refine wp_world fun w3 hw => ?_
  have HAN := Lib.hid (AN.start (N := n0) (Frm.refl _ _) hNT hw)
  obtain ⟨B, hB⟩ : ∃ b, w2.heap.size = b := ⟨_, rfl⟩
  rw [hB] at HAN ⊢
  clear hNT hw hB
  have cB0 : w3.cell? ⟨B, 0, none⟩ = some (.int .i64 n0) := HAN.out.blk.cell 0
  have cB1 : w3.cell? ⟨B, 1, none⟩ = some (.slice A0 L0.length C0) := HAN.out.blk.cell 1
  have lB := HAN.out.blk.lt
  go_upto_region 3 with fail
  refine wp_region_lit ?_
  refine wpList_read 2 ?_
  simp only [List.take_succ_cons, List.take_zero, List.drop_succ_cons, List.drop_zero]
  repeat (any_goals (first | go_big_quiet_step (fail) | quiet_step (fail)))
  refine wpQuiet_nil ?_
  refine wpList_plain rfl fun K hK => ?_
  go_simp
  refine hK _ _ ?_
  clear hK K
  refine list_world fun wc hwc => ?_
  have hsc : Same w3 wc := by rw [hwc]; exact (Frm.refl _ _).alloc _
  have hNc := Blk.new w3 24 #[.int .i64 n0, .slice A0 L0.length C0]
  rw [← hwc] at hNc
  clear hwc
  refine wpList_plain rfl fun K hK => ?_
  refine Own.grow (f := ttcell) (.tmp 19) (.tmp 21) _ rfl Try.underlying49 info_tab rfl rfl (Own.frm HAN.out.list hsc (fun _ _ => id)) ttcell_len [⟨n0, A0, L0.length, C0⟩] (by simp) ⟨w3.heap.size, 0, none⟩ 1 rfl (fun j u hj => news_of_blk hNc j u hj) (by simp [ttcell, Value.oneCell']) (by simp [maxLen]) (by simp) ?_
  intro g0 D0 w4 hOd _ hgr hat
  refine hK _ _ ?_
  clear hK K cB0 cB1 lB
  simp only [List.length_cons, List.length_nil, Nat.zero_add] at hOd ⊢
  replace HAN := Lib.hid (HAN.out.app hsc hgr hOd hat)
  clear hgr hOd hat hNc hsc
  simp only [List.nil_append] at HAN
  go_upto_region 5 with fail
  refine wp_world fun w5 hw => ?_
  have hsb : Same w4 w5 := by rw [hw]; exact (Frm.refl _ _).alloc _
  have hBO : Blk w5 w4.heap.size 5 #[.int .u8 6, .int .u8 10, .int .u8 12] := by rw [hw]; exact Blk.new _ _ _
  have hgO : g0 ≠ w4.heap.size := by
    have := Own.row HAN.out.list g0 ⟨_, rfl, rfl⟩
    omega
  have hBn : B ≠ w4.heap.size := by have := HAN.out.blk.lt; omega
  obtain ⟨O, hO⟩ : ∃ b, w4.heap.size = b := ⟨_, rfl⟩
  rw [hO] at hBO hgO hBn ⊢
  replace HAN := Lib.hid (HAN.out.other hsb)
  have HBO := Lib.hid hBO
  have HGO := Lib.hid hgO
  have HBN := Lib.hid hBn
  clear hw hsb hBO hgO hO hBn
  go_loopw [9, 25] (fun l q wi => ∃ (j g D : Nat) (ts : List Tt) (x y : Value), j ≤ 3 ∧ q = .int .i64 j ∧ l = .slice (some ⟨g, 0, none⟩) (j + 1) D ∧ AN w1 wi B (some ⟨g, 0, none⟩) D (j + 1) ts ts ([(n0, L0)] ++ opL.take j) x y ∧ Blk wi O 5 #[.int .u8 6, .int .u8 10, .int .u8 12] ∧ g ≠ O) (fun _ q _ => 3 - (intOf q).toNat)
  case atStart => exact ⟨0, g0, D0, _, _, _, by omega, rfl, rfl, by simpa using HAN.out, HBO.out, HGO.out⟩
  case round =>
    clear HAN HBO HGO
    obtain ⟨j, g, D, ts, x, y, hj, rfl, rfl, hAN, hBO, hgO⟩ := hrel
    by_cases hlt : j < 3
    · obtain ⟨op, nj, Lj, hop, hoL, hc⟩ := HHO.out j hlt
      have hcO : wr.cell? ⟨O, j, none⟩ = some (.int .u8 (op : Nat)) := by
        rw [hBO.cell j]
        have : j = 0 ∨ j = 1 ∨ j = 2 := by omega
        rcases this with rfl | rfl | rfl <;> (simp at hop; subst hop; rfl)
      have lO := hBO.lt
      have hj0 : (0 : Int) ≤ j := by omega
      have hj1 : (j : Int) < 3 := by omega
      have HC := Lib.hid hc
      have HOP := Lib.hid hoL
      have HAN := Lib.hid hAN
      have HBO := Lib.hid hBO
      have HGO := Lib.hid hgO
      clear hc hop hoL hAN hBO hgO
      have cX0 : wr.cell? ⟨X, 0, none⟩ = some (.int .i64 Na) := (HBX.out.frm HAN.out.same id).cell 0
      have cX1 : wr.cell? ⟨X, 1, none⟩ = some (.slice Aa wsa.length Ca) := (HBX.out.frm HAN.out.same id).cell 1
      have cY0 : wr.cell? ⟨Y, 0, none⟩ = some (.int .i64 Nb) := (HBY.out.frm HAN.out.same id).cell 0
      have cY1 : wr.cell? ⟨Y, 1, none⟩ = some (.slice Ab wsb.length Cb) := (HBY.out.frm HAN.out.same id).cell 1
      have lX := (HBX.out.frm HAN.out.same id).lt
      have lY := (HBY.out.frm HAN.out.same id).lt
      go_wp2_with (fail)
      refine (HC.out wr (HS1.out.trans HAN.out.same (fun _ _ h => h))).mono ?_
      rintro e wx ⟨Aj, Cj, er, rfl, hNT⟩
      replace HAN := Lib.hid (HAN.out.call (N := nj) hNT)
      replace HBO := Lib.hid (HBO.out.frm hNT.2.2 id)
      clear hNT hcO lO
      have lB := HAN.out.blk.lt
      have fB0 := HAN.out.blk.free 0
      have fB1 := HAN.out.blk.free 1
      have cB0 := HAN.out.blk.cell 0
      have cB1 := HAN.out.blk.cell 1
      clear cX0 cX1 cY0 cY1 lX lY
      go_upto_region 8 with fail
      refine wp_world fun w6 hw => ?_
      replace HAN := Lib.hid (HAN.out.store hw)
      replace HBO := Lib.hid (show Blk w6 O 5 #[.int .u8 6, .int .u8 10, .int .u8 12] by rw [hw]; exact (HBO.out.far (p := ⟨B, 0, none⟩) (Ne.symm HBN.out) _).far (p := ⟨B, 1, none⟩) (Ne.symm HBN.out) _)
      clear hw lB fB0 fB1 cB0 cB1
      have cB0 : w6.cell? ⟨B, 0, none⟩ = some (.int .i64 nj) := HAN.out.blk.cell 0
      have cB1 : w6.cell? ⟨B, 1, none⟩ = some (.slice Aj Lj.length Cj) := HAN.out.blk.cell 1
      have lB := HAN.out.blk.lt
      go_upto_region 8 with fail
      refine wp_region_lit ?_
      refine wpList_read 2 ?_
      simp only [List.take_succ_cons, List.take_zero, List.drop_succ_cons, List.drop_zero]
      repeat (any_goals (first | go_big_quiet_step (fail) | quiet_step (fail)))
      refine wpQuiet_nil ?_
      refine wpList_plain rfl fun K hK => ?_
      go_simp
      refine hK _ _ ?_
      clear hK K
      refine list_world fun wc hwc => ?_
      have hsc : Same w6 wc := by rw [hwc]; exact (Frm.refl _ _).alloc _
      have hNc := Blk.new w6 24 #[.int .i64 nj, .slice Aj Lj.length Cj]
      rw [← hwc] at hNc
      clear hwc
      refine wpList_plain rfl fun K hK => ?_
      refine Own.grow (f := ttcell) (.tmp 36) (.tmp 38) _ rfl Try.underlying49 info_tab rfl rfl (Own.frm HAN.out.list hsc (fun _ _ => id)) ttcell_len [⟨nj, Aj, Lj.length, Cj⟩] (by simp) ⟨w6.heap.size, 0, none⟩ 1 rfl (fun j u hj => news_of_blk hNc j u hj) (by simp [ttcell, Value.oneCell']) (by simp [maxLen]; omega) (by simp; omega) ?_
      intro g1 D1 w7 hOd _ hgr hat
      refine hK _ _ ?_
      clear hK K cB0 cB1 lB
      simp only [List.length_cons, List.length_nil, Nat.zero_add] at hOd ⊢
      replace HAN := Lib.hid (HAN.out.app hsc hgr hOd hat)
      have hB1 := (HBO.out.frm hsc id).grown hgr (fun he => HGO.out (rw_some.1 (rw_own he.symm)).symm)
      have hg1 : g1 ≠ O := by
        rcases hat with ⟨h1, _⟩ | ⟨h1, _⟩
        · injection h1 with h1
          injection h1 with h1
          rw [← h1]; exact HGO.out
        · have := (HBO.out.frm hsc id).lt; omega
      replace HBO := Lib.hid hB1
      replace HGO := Lib.hid hg1
      clear hB1 hg1
      clear hgr hOd hat hNc hsc
      have hAN : AN w1 w7 B (some ⟨g1, 0, none⟩) D1 (j + 1 + 1) (ts ++ [⟨nj, Aj, Lj.length, Cj⟩]) (ts ++ [⟨nj, Aj, Lj.length, Cj⟩]) ([(n0, L0)] ++ opL.take (j + 1)) (.int .i64 nj) (.slice Aj Lj.length Cj) := by
        rw [List.take_add_one, HOP.out, ← List.append_assoc]
        exact HAN.out
      replace HAN := Lib.hid hAN
      clear hAN
      go_wp2
      go_roundw
      case rel => exact ⟨j + 1, g1, D1, _, _, _, by omega, by go_num, by go_num, HAN.out, HBO.out, HGO.out⟩
      case measure => simp [intOf]; omega
    · obtain rfl : j = 3 := by omega
      have hAN2 : AN w1 wr B (some ⟨g, 0, none⟩) D 4 ts ts ([(n0, L0)] ++ opL) x y := by
        rw [show opL.take 3 = opL from List.take_of_length_le (by rw [HOL.out]; exact Nat.le_refl _)] at hAN
        exact hAN
      have HAN := Lib.hid hAN2
      clear hAN hAN2 hBO hgO HHO
      obtain ⟨u0, rfl⟩ : ∃ z, z = wr := ⟨_, rfl⟩
      have cX0 : u0.cell? ⟨X, 0, none⟩ = some (.int .i64 Na) := (HBX.out.frm HAN.out.same id).cell 0
      have cX1 : u0.cell? ⟨X, 1, none⟩ = some (.slice Aa wsa.length Ca) := (HBX.out.frm HAN.out.same id).cell 1
      have cY0 : u0.cell? ⟨Y, 0, none⟩ = some (.int .i64 Nb) := (HBY.out.frm HAN.out.same id).cell 0
      have cY1 : u0.cell? ⟨Y, 1, none⟩ = some (.slice Ab wsb.length Cb) := (HBY.out.frm HAN.out.same id).cell 1
      have lX := (HBX.out.frm HAN.out.same id).lt
      have lY := (HBY.out.frm HAN.out.same id).lt
      go_wp2_with (fail)
      refine (HH4.out u0 (HS1.out.trans HAN.out.same (fun _ _ h => h))).mono ?_
      rintro e wx ⟨A4, C4, er, rfl, hNT⟩
      replace HAN := Lib.hid (HAN.out.call (N := n4) hNT)
      clear hNT
      have lB := HAN.out.blk.lt
      have fB0 := HAN.out.blk.free 0
      have fB1 := HAN.out.blk.free 1
      have cB0 := HAN.out.blk.cell 0
      have cB1 := HAN.out.blk.cell 1
      clear cX0 cX1 cY0 cY1 lX lY
      go_upto_region 11 with fail
      refine wp_world fun u1 hw => ?_
      replace HAN := Lib.hid (HAN.out.store hw)
      clear hw lB fB0 fB1 cB0 cB1
      have cB0 : u1.cell? ⟨B, 0, none⟩ = some (.int .i64 n4) := HAN.out.blk.cell 0
      have cB1 : u1.cell? ⟨B, 1, none⟩ = some (.slice A4 L4.length C4) := HAN.out.blk.cell 1
      have lB := HAN.out.blk.lt
      go_upto_region 11 with fail
      refine wp_region_lit ?_
      refine wpList_read 2 ?_
      simp only [List.take_succ_cons, List.take_zero, List.drop_succ_cons, List.drop_zero]
      repeat (any_goals (first | go_big_quiet_step (fail) | quiet_step (fail)))
      refine wpQuiet_nil ?_
      refine wpList_plain rfl fun K hK => ?_
      go_simp
      refine hK _ _ ?_
      clear hK K
      refine list_world fun wc hwc => ?_
      have hsc : Same u1 wc := by rw [hwc]; exact (Frm.refl _ _).alloc _
      have hNc := Blk.new u1 24 #[.int .i64 n4, .slice A4 L4.length C4]
      rw [← hwc] at hNc
      clear hwc
      refine wpList_plain rfl fun K hK => ?_
      refine Own.grow (f := ttcell) (.tmp 48) (.tmp 50) _ rfl Try.underlying49 info_tab rfl rfl (Own.frm HAN.out.list hsc (fun _ _ => id)) ttcell_len [⟨n4, A4, L4.length, C4⟩] (by simp) ⟨u1.heap.size, 0, none⟩ 1 rfl (fun j u hj => news_of_blk hNc j u hj) (by simp [ttcell, Value.oneCell']) (by simp [maxLen]) (by simp) ?_
      intro g4 D4 u2 hOd _ hgr hat
      refine hK _ _ ?_
      clear hK K cB0 cB1 lB
      simp only [List.length_cons, List.length_nil, Nat.zero_add, Nat.reduceAdd] at hOd ⊢
      replace HAN := Lib.hid (HAN.out.app hsc hgr hOd hat)
      clear hgr hOd hat hNc hsc
      have cX0 : u2.cell? ⟨X, 0, none⟩ = some (.int .i64 Na) := (HBX.out.frm HAN.out.same id).cell 0
      have cX1 : u2.cell? ⟨X, 1, none⟩ = some (.slice Aa wsa.length Ca) := (HBX.out.frm HAN.out.same id).cell 1
      have cY0 : u2.cell? ⟨Y, 0, none⟩ = some (.int .i64 Nb) := (HBY.out.frm HAN.out.same id).cell 0
      have cY1 : u2.cell? ⟨Y, 1, none⟩ = some (.slice Ab wsb.length Cb) := (HBY.out.frm HAN.out.same id).cell 1
      have lX := (HBX.out.frm HAN.out.same id).lt
      have lY := (HBY.out.frm HAN.out.same id).lt
      go_wp2_with (fail)
      refine (HH5.out u2 (HS1.out.trans HAN.out.same (fun _ _ h => h))).mono ?_
      rintro e wx ⟨A5, C5, er, rfl, hNT⟩
      replace HAN := Lib.hid (HAN.out.call (N := n5) hNT)
      clear hNT
      have lB := HAN.out.blk.lt
      have fB0 := HAN.out.blk.free 0
      have fB1 := HAN.out.blk.free 1
      have cB0 := HAN.out.blk.cell 0
      have cB1 := HAN.out.blk.cell 1
      clear cX0 cX1 cY0 cY1 lX lY
      go_upto_region 13 with fail
      refine wp_world fun u3 hw => ?_
      replace HAN := Lib.hid (HAN.out.store hw)
      clear hw lB fB0 fB1 cB0 cB1
      have cB0 : u3.cell? ⟨B, 0, none⟩ = some (.int .i64 n5) := HAN.out.blk.cell 0
      have cB1 : u3.cell? ⟨B, 1, none⟩ = some (.slice A5 L5.length C5) := HAN.out.blk.cell 1
      have lB := HAN.out.blk.lt
      go_upto_region 13 with fail
      refine wp_region_lit ?_
      refine wpList_read 2 ?_
      simp only [List.take_succ_cons, List.take_zero, List.drop_succ_cons, List.drop_zero]
      repeat (any_goals (first | go_big_quiet_step (fail) | quiet_step (fail)))
      refine wpQuiet_nil ?_
      refine wpList_plain rfl fun K hK => ?_
      go_simp
      refine hK _ _ ?_
      clear hK K
      refine list_world fun wc hwc => ?_
      have hsc : Same u3 wc := by rw [hwc]; exact (Frm.refl _ _).alloc _
      have hNc := Blk.new u3 24 #[.int .i64 n5, .slice A5 L5.length C5]
      rw [← hwc] at hNc
      clear hwc
      refine wpList_plain rfl fun K hK => ?_
      refine Own.grow (f := ttcell) (.tmp 59) (.tmp 61) _ rfl Try.underlying49 info_tab rfl rfl (Own.frm HAN.out.list hsc (fun _ _ => id)) ttcell_len [⟨n5, A5, L5.length, C5⟩] (by simp) ⟨u3.heap.size, 0, none⟩ 1 rfl (fun j u hj => news_of_blk hNc j u hj) (by simp [ttcell, Value.oneCell']) (by simp [maxLen]) (by simp) ?_
      intro g5 D5 u4 hOd _ hgr hat
      refine hK _ _ ?_
      clear hK K cB0 cB1 lB
      simp only [List.length_cons, List.length_nil, Nat.zero_add, Nat.reduceAdd] at hOd ⊢
      replace HAN := Lib.hid (HAN.out.app hsc hgr hOd hat)
      clear hgr hOd hat hNc hsc
      have cX0 : u4.cell? ⟨X, 0, none⟩ = some (.int .i64 Na) := (HBX.out.frm HAN.out.same id).cell 0
      have cX1 : u4.cell? ⟨X, 1, none⟩ = some (.slice Aa wsa.length Ca) := (HBX.out.frm HAN.out.same id).cell 1
      have cY0 : u4.cell? ⟨Y, 0, none⟩ = some (.int .i64 Nb) := (HBY.out.frm HAN.out.same id).cell 0
      have cY1 : u4.cell? ⟨Y, 1, none⟩ = some (.slice Ab wsb.length Cb) := (HBY.out.frm HAN.out.same id).cell 1
      have lX := (HBX.out.frm HAN.out.same id).lt
      have lY := (HBY.out.frm HAN.out.same id).lt
      go_wp2_with (fail)
      refine (HH6.out u4 (HS1.out.trans HAN.out.same (fun _ _ h => h))).mono ?_
      rintro e wx ⟨A6, C6, er, rfl, hNT⟩
      replace HAN := Lib.hid (HAN.out.call (N := n6) hNT)
      clear hNT
      have lB := HAN.out.blk.lt
      have fB0 := HAN.out.blk.free 0
      have fB1 := HAN.out.blk.free 1
      have cB0 := HAN.out.blk.cell 0
      have cB1 := HAN.out.blk.cell 1
      clear cX0 cX1 cY0 cY1 lX lY
      go_upto_region 15 with fail
      refine wp_world fun u5 hw => ?_
      replace HAN := Lib.hid (HAN.out.store hw)
      clear hw lB fB0 fB1 cB0 cB1
      have cB0 : u5.cell? ⟨B, 0, none⟩ = some (.int .i64 n6) := HAN.out.blk.cell 0
      have cB1 : u5.cell? ⟨B, 1, none⟩ = some (.slice A6 L6.length C6) := HAN.out.blk.cell 1
      have lB := HAN.out.blk.lt
      go_upto_region 15 with fail
      refine wp_region_lit ?_
      refine wpList_read 2 ?_
      simp only [List.take_succ_cons, List.take_zero, List.drop_succ_cons, List.drop_zero]
      repeat (any_goals (first | go_big_quiet_step (fail) | quiet_step (fail)))
      refine wpQuiet_nil ?_
      refine wpList_plain rfl fun K hK => ?_
      go_simp
      refine hK _ _ ?_
      clear hK K
      refine list_world fun wc hwc => ?_
      have hsc : Same u5 wc := by rw [hwc]; exact (Frm.refl _ _).alloc _
      have hNc := Blk.new u5 24 #[.int .i64 n6, .slice A6 L6.length C6]
      rw [← hwc] at hNc
      clear hwc
      refine wpList_plain rfl fun K hK => ?_
      refine Own.grow (f := ttcell) (.tmp 69) (.tmp 71) _ rfl Try.underlying49 info_tab rfl rfl (Own.frm HAN.out.list hsc (fun _ _ => id)) ttcell_len [⟨n6, A6, L6.length, C6⟩] (by simp) ⟨u5.heap.size, 0, none⟩ 1 rfl (fun j u hj => news_of_blk hNc j u hj) (by simp [ttcell, Value.oneCell']) (by simp [maxLen]) (by simp) ?_
      intro g6 D6 u6 hOd _ hgr hat
      refine hK _ _ ?_
      clear hK K cB0 cB1 lB
      simp only [List.length_cons, List.length_nil, Nat.zero_add, Nat.reduceAdd] at hOd ⊢
      replace HAN := Lib.hid (HAN.out.app hsc hgr hOd hat)
      clear hgr hOd hat hNc hsc
      have cX0 : u6.cell? ⟨X, 0, none⟩ = some (.int .i64 Na) := (HBX.out.frm HAN.out.same id).cell 0
      have cX1 : u6.cell? ⟨X, 1, none⟩ = some (.slice Aa wsa.length Ca) := (HBX.out.frm HAN.out.same id).cell 1
      have cY0 : u6.cell? ⟨Y, 0, none⟩ = some (.int .i64 Nb) := (HBY.out.frm HAN.out.same id).cell 0
      have cY1 : u6.cell? ⟨Y, 1, none⟩ = some (.slice Ab wsb.length Cb) := (HBY.out.frm HAN.out.same id).cell 1
      have lX := (HBX.out.frm HAN.out.same id).lt
      have lY := (HBY.out.frm HAN.out.same id).lt
      go_wp2_with (fail)
      refine (HH7.out u6 (HS1.out.trans HAN.out.same (fun _ _ h => h))).mono ?_
      rintro e wx ⟨A7, C7, er, rfl, hNT⟩
      replace HAN := Lib.hid (HAN.out.call (N := n7) hNT)
      clear hNT
      have lB := HAN.out.blk.lt
      have fB0 := HAN.out.blk.free 0
      have fB1 := HAN.out.blk.free 1
      have cB0 := HAN.out.blk.cell 0
      have cB1 := HAN.out.blk.cell 1
      clear cX0 cX1 cY0 cY1 lX lY
      go_upto_region 17 with fail
      refine wp_world fun u7 hw => ?_
      replace HAN := Lib.hid (HAN.out.store hw)
      clear hw lB fB0 fB1 cB0 cB1
      have cB0 : u7.cell? ⟨B, 0, none⟩ = some (.int .i64 n7) := HAN.out.blk.cell 0
      have cB1 : u7.cell? ⟨B, 1, none⟩ = some (.slice A7 L7.length C7) := HAN.out.blk.cell 1
      have lB := HAN.out.blk.lt
      go_upto_region 17 with fail
      refine wp_region_lit ?_
      refine wpList_read 2 ?_
      simp only [List.take_succ_cons, List.take_zero, List.drop_succ_cons, List.drop_zero]
      repeat (any_goals (first | go_big_quiet_step (fail) | quiet_step (fail)))
      refine wpQuiet_nil ?_
      refine wpList_plain rfl fun K hK => ?_
      go_simp
      refine hK _ _ ?_
      clear hK K
      refine list_world fun wc hwc => ?_
      have hsc : Same u7 wc := by rw [hwc]; exact (Frm.refl _ _).alloc _
      have hNc := Blk.new u7 24 #[.int .i64 n7, .slice A7 L7.length C7]
      rw [← hwc] at hNc
      clear hwc
      refine wpList_plain rfl fun K hK => ?_
      refine Own.grow (f := ttcell) (.tmp 79) (.tmp 81) _ rfl Try.underlying49 info_tab rfl rfl (Own.frm HAN.out.list hsc (fun _ _ => id)) ttcell_len [⟨n7, A7, L7.length, C7⟩] (by simp) ⟨u7.heap.size, 0, none⟩ 1 rfl (fun j u hj => news_of_blk hNc j u hj) (by simp [ttcell, Value.oneCell']) (by simp [maxLen]) (by simp) ?_
      intro g7 D7 u8 hOd _ hgr hat
      refine hK _ _ ?_
      clear hK K cB0 cB1 lB
      simp only [List.length_cons, List.length_nil, Nat.zero_add, Nat.reduceAdd] at hOd ⊢
      replace HAN := Lib.hid (HAN.out.app hsc hgr hOd hat)
      clear hgr hOd hat hNc hsc
      have cX0 : u8.cell? ⟨X, 0, none⟩ = some (.int .i64 Na) := (HBX.out.frm HAN.out.same id).cell 0
      have cX1 : u8.cell? ⟨X, 1, none⟩ = some (.slice Aa wsa.length Ca) := (HBX.out.frm HAN.out.same id).cell 1
      have cY0 : u8.cell? ⟨Y, 0, none⟩ = some (.int .i64 Nb) := (HBY.out.frm HAN.out.same id).cell 0
      have cY1 : u8.cell? ⟨Y, 1, none⟩ = some (.slice Ab wsb.length Cb) := (HBY.out.frm HAN.out.same id).cell 1
      have lX := (HBX.out.frm HAN.out.same id).lt
      have lY := (HBY.out.frm HAN.out.same id).lt
      go_wp2_with (fail)
      refine (HH8.out u8 (HS1.out.trans HAN.out.same (fun _ _ h => h))).mono ?_
      rintro e wx ⟨A8, C8, er, rfl, hNT⟩
      replace HAN := Lib.hid (HAN.out.call (N := n8) hNT)
      clear hNT
      have lB := HAN.out.blk.lt
      have fB0 := HAN.out.blk.free 0
      have fB1 := HAN.out.blk.free 1
      have cB0 := HAN.out.blk.cell 0
      have cB1 := HAN.out.blk.cell 1
      clear cX0 cX1 cY0 cY1 lX lY
      go_upto_region 19 with fail
      refine wp_world fun u9 hw => ?_
      replace HAN := Lib.hid (HAN.out.store hw)
      clear hw lB fB0 fB1 cB0 cB1
      have cB0 : u9.cell? ⟨B, 0, none⟩ = some (.int .i64 n8) := HAN.out.blk.cell 0
      have cB1 : u9.cell? ⟨B, 1, none⟩ = some (.slice A8 L8.length C8) := HAN.out.blk.cell 1
      have lB := HAN.out.blk.lt
      go_upto_region 19 with fail
      refine wp_region_lit ?_
      refine wpList_read 2 ?_
      simp only [List.take_succ_cons, List.take_zero, List.drop_succ_cons, List.drop_zero]
      repeat (any_goals (first | go_big_quiet_step (fail) | quiet_step (fail)))
      refine wpQuiet_nil ?_
      refine wpList_plain rfl fun K hK => ?_
      go_simp
      refine hK _ _ ?_
      clear hK K
      refine list_world fun wc hwc => ?_
      have hsc : Same u9 wc := by rw [hwc]; exact (Frm.refl _ _).alloc _
      have hNc := Blk.new u9 24 #[.int .i64 n8, .slice A8 L8.length C8]
      rw [← hwc] at hNc
      clear hwc
      refine wpList_plain rfl fun K hK => ?_
      refine Own.grow (f := ttcell) (.tmp 89) (.tmp 91) _ rfl Try.underlying49 info_tab rfl rfl (Own.frm HAN.out.list hsc (fun _ _ => id)) ttcell_len [⟨n8, A8, L8.length, C8⟩] (by simp) ⟨u9.heap.size, 0, none⟩ 1 rfl (fun j u hj => news_of_blk hNc j u hj) (by simp [ttcell, Value.oneCell']) (by simp [maxLen]) (by simp) ?_
      intro g8 D8 u10 hOd _ hgr hat
      refine hK _ _ ?_
      clear hK K cB0 cB1 lB
      simp only [List.length_cons, List.length_nil, Nat.zero_add, Nat.reduceAdd] at hOd ⊢
      replace HAN := Lib.hid (HAN.out.app hsc hgr hOd hat)
      clear hgr hOd hat hNc hsc
      have cX0 : u10.cell? ⟨X, 0, none⟩ = some (.int .i64 Na) := (HBX.out.frm HAN.out.same id).cell 0
      have cX1 : u10.cell? ⟨X, 1, none⟩ = some (.slice Aa wsa.length Ca) := (HBX.out.frm HAN.out.same id).cell 1
      have cY0 : u10.cell? ⟨Y, 0, none⟩ = some (.int .i64 Nb) := (HBY.out.frm HAN.out.same id).cell 0
      have cY1 : u10.cell? ⟨Y, 1, none⟩ = some (.slice Ab wsb.length Cb) := (HBY.out.frm HAN.out.same id).cell 1
      have lX := (HBX.out.frm HAN.out.same id).lt
      have lY := (HBY.out.frm HAN.out.same id).lt
      go_wp2_with (fail)
      refine (HH9.out u10 (HS1.out.trans HAN.out.same (fun _ _ h => h))).mono ?_
      rintro e wx ⟨A9, C9, er, rfl, hNT⟩
      replace HAN := Lib.hid (HAN.out.call (N := n9) hNT)
      clear hNT
      have lB := HAN.out.blk.lt
      have fB0 := HAN.out.blk.free 0
      have fB1 := HAN.out.blk.free 1
      have cB0 := HAN.out.blk.cell 0
      have cB1 := HAN.out.blk.cell 1
      clear cX0 cX1 cY0 cY1 lX lY
      go_upto_region 21 with fail
      refine wp_world fun u11 hw => ?_
      replace HAN := Lib.hid (HAN.out.store hw)
      clear hw lB fB0 fB1 cB0 cB1
      have cB0 : u11.cell? ⟨B, 0, none⟩ = some (.int .i64 n9) := HAN.out.blk.cell 0
      have cB1 : u11.cell? ⟨B, 1, none⟩ = some (.slice A9 L9.length C9) := HAN.out.blk.cell 1
      have lB := HAN.out.blk.lt
      go_upto_region 21 with fail
      refine wp_region_lit ?_
      refine wpList_read 2 ?_
      simp only [List.take_succ_cons, List.take_zero, List.drop_succ_cons, List.drop_zero]
      repeat (any_goals (first | go_big_quiet_step (fail) | quiet_step (fail)))
      refine wpQuiet_nil ?_
      refine wpList_plain rfl fun K hK => ?_
      go_simp
      refine hK _ _ ?_
      clear hK K
      refine list_world fun wc hwc => ?_
      have hsc : Same u11 wc := by rw [hwc]; exact (Frm.refl _ _).alloc _
      have hNc := Blk.new u11 24 #[.int .i64 n9, .slice A9 L9.length C9]
      rw [← hwc] at hNc
      clear hwc
      refine wpList_plain rfl fun K hK => ?_
      refine Own.grow (f := ttcell) (.tmp 100) (.tmp 102) _ rfl Try.underlying49 info_tab rfl rfl (Own.frm HAN.out.list hsc (fun _ _ => id)) ttcell_len [⟨n9, A9, L9.length, C9⟩] (by simp) ⟨u11.heap.size, 0, none⟩ 1 rfl (fun j u hj => news_of_blk hNc j u hj) (by simp [ttcell, Value.oneCell']) (by simp [maxLen]) (by simp) ?_
      intro g9 D9 u12 hOd _ hgr hat
      refine hK _ _ ?_
      clear hK K cB0 cB1 lB
      simp only [List.length_cons, List.length_nil, Nat.zero_add, Nat.reduceAdd] at hOd ⊢
      replace HAN := Lib.hid (HAN.out.app hsc hgr hOd hat)
      clear hgr hOd hat hNc hsc
      have cX0 : u12.cell? ⟨X, 0, none⟩ = some (.int .i64 Na) := (HBX.out.frm HAN.out.same id).cell 0
      have cX1 : u12.cell? ⟨X, 1, none⟩ = some (.slice Aa wsa.length Ca) := (HBX.out.frm HAN.out.same id).cell 1
      have cY0 : u12.cell? ⟨Y, 0, none⟩ = some (.int .i64 Nb) := (HBY.out.frm HAN.out.same id).cell 0
      have cY1 : u12.cell? ⟨Y, 1, none⟩ = some (.slice Ab wsb.length Cb) := (HBY.out.frm HAN.out.same id).cell 1
      have lX := (HBX.out.frm HAN.out.same id).lt
      have lY := (HBY.out.frm HAN.out.same id).lt
      go_wp2_with (fail)
      refine (HH10.out u12 (HS1.out.trans HAN.out.same (fun _ _ h => h))).mono ?_
      rintro e wx ⟨A10, C10, er, rfl, hNT⟩
      replace HAN := Lib.hid (HAN.out.call (N := n10) hNT)
      clear hNT
      have lB := HAN.out.blk.lt
      have fB0 := HAN.out.blk.free 0
      have fB1 := HAN.out.blk.free 1
      have cB0 := HAN.out.blk.cell 0
      have cB1 := HAN.out.blk.cell 1
      clear cX0 cX1 cY0 cY1 lX lY
      go_upto_region 23 with fail
      refine wp_world fun u13 hw => ?_
      replace HAN := Lib.hid (HAN.out.store hw)
      clear hw lB fB0 fB1 cB0 cB1
      have cB0 : u13.cell? ⟨B, 0, none⟩ = some (.int .i64 n10) := HAN.out.blk.cell 0
      have cB1 : u13.cell? ⟨B, 1, none⟩ = some (.slice A10 L10.length C10) := HAN.out.blk.cell 1
      have lB := HAN.out.blk.lt
      go_upto_region 23 with fail
      refine wp_region_lit ?_
      refine wpList_read 2 ?_
      simp only [List.take_succ_cons, List.take_zero, List.drop_succ_cons, List.drop_zero]
      repeat (any_goals (first | go_big_quiet_step (fail) | quiet_step (fail)))
      refine wpQuiet_nil ?_
      refine wpList_plain rfl fun K hK => ?_
      go_simp
      refine hK _ _ ?_
      clear hK K
      refine list_world fun wc hwc => ?_
      have hsc : Same u13 wc := by rw [hwc]; exact (Frm.refl _ _).alloc _
      have hNc := Blk.new u13 24 #[.int .i64 n10, .slice A10 L10.length C10]
      rw [← hwc] at hNc
      clear hwc
      refine wpList_plain rfl fun K hK => ?_
      refine Own.grow (f := ttcell) (.tmp 112) (.tmp 114) _ rfl Try.underlying49 info_tab rfl rfl (Own.frm HAN.out.list hsc (fun _ _ => id)) ttcell_len [⟨n10, A10, L10.length, C10⟩] (by simp) ⟨u13.heap.size, 0, none⟩ 1 rfl (fun j u hj => news_of_blk hNc j u hj) (by simp [ttcell, Value.oneCell']) (by simp [maxLen]) (by simp) ?_
      intro g10 D10 u14 hOd _ hgr hat
      refine hK _ _ ?_
      clear hK K cB0 cB1 lB
      simp only [List.length_cons, List.length_nil, Nat.zero_add, Nat.reduceAdd] at hOd ⊢
      replace HAN := Lib.hid (HAN.out.app hsc hgr hOd hat)
      clear hgr hOd hat hNc hsc
      go_wp2
      go_ret
      exact ⟨_, _, _, rfl, HS1.out.trans HAN.out.same (fun _ _ h => h), HAN.out.list, HAN.out.tl.less HS1.out.size, (Fresh.less HAN.out.lf HS1.out.size) _ ⟨_, rfl, rfl⟩, fun i t hi => HAN.out.dis i t hi _ ⟨_, rfl, rfl⟩⟩
def opC (op : Nat) (Na : Int) (wsa : List Nat) (Nb : Int) (wsb : List Nat) : Cn := rcN Na (tab Na.toNat (binF op wsa wsb)) (binE op (fm [⟨Na, none, 0, wsa⟩, ⟨Nb, none, 0, wsb⟩]))
def itC (Na : Int) (wsa : List Nat) (Nb : Int) (wsb : List Nat) (Nc : Int) (wsc : List Nat) : Cn := rcN Na (tab Na.toNat (iteF wsa wsb wsc)) (fmE (fm [⟨Na, none, 0, wsa⟩, ⟨Nb, none, 0, wsb⟩, ⟨Nc, none, 0, wsc⟩]))
/-- what the calls answer -/
def ansC (Na : Int) (wsa : List Nat) (Nb : Int) (wsb : List Nat) (v : Int) (p : List Int) : List Cn :=
  [rcN Na (tab Na.toNat (notF wsa)) (fmE (frm Na wsa))] ++ [opC 6 Na wsa Nb wsb, opC 10 Na wsa Nb wsb, opC 12 Na wsa Nb wsb] ++ [itC Na wsa Nb wsb Na wsa] ++ [itC Nb wsb Nb wsb Nb wsb] ++ [rcN Na (tab Na.toNat (hfF v.toNat true wsa)) (ofE Na v wsa)] ++ [rcN Na (tab Na.toNat (exF v.toNat wsa)) (ofE Na v wsa)] ++ [rcN Na (tab Na.toNat (renF Na.toNat p wsa)) (rnE Na p wsa)] ++ [rcN (min Na 8) (tab (min Na 8).toNat (fun _ => true)) (cntE (min Na 8))] ++ [rcN (min Na 8) (tab (min Na 8).toNat (varF v.toNat)) (varE (min Na 8) v)]
theorem answers_any (Na : Int) (Aa : Option Addr) (Ca : Nat) (wsa : List Nat) (Nb : Int) (Ab : Option Addr) (Cb : Nat) (wsb : List Nat) (v : Int) (Ap : Option Addr) (Lp Cp : Nat) (p : List Int) (w : World) (ha : TbOk w ⟨Na, Aa, Ca, wsa⟩) (hb : TbOk w ⟨Nb, Ab, Cb, wsb⟩) (hp : IL w Ap Lp p) (hLp : Lp ≤ 1000000000000000000) :
    Calls Try.prog 46 #[.agg #[.int .i64 Na, .slice Aa wsa.length Ca], .agg #[.int .i64 Nb, .slice Ab wsb.length Cb], .int .i64 v, .slice Ap Lp Cp] w (RetTs w 11 (ansC Na wsa Nb wsb v p)) := by
  refine answers_gen Na Aa Ca wsa Nb Ab Cb wsb v Ap Lp Cp [opC 6 Na wsa Nb wsb, opC 10 Na wsa Nb wsb, opC 12 Na wsa Nb wsb] rfl _ _ _ _ _ _ _ _ _ _ _ _ _ _ _ _ w (fun w' hs => (Not_any Na Aa Ca wsa w' (ha.same hs)).mono fun _ _ h => h.cn) (fun j hj => ?_) (fun w' hs => (Ite_any Na Aa Ca wsa Nb Ab Cb wsb Na Aa Ca wsa w' (ha.same hs) (hb.same hs) (ha.same hs)).mono fun _ _ h => h.cn) (fun w' hs => (Ite_any Nb Ab Cb wsb Nb Ab Cb wsb Nb Ab Cb wsb w' (hb.same hs) (hb.same hs) (hb.same hs)).mono fun _ _ h => h.cn)
    (fun w' hs => (Cofactor_any Na Aa Ca wsa v true w' (ha.same hs)).mono fun _ _ h => h.cn) (fun w' hs => (Exists_any Na Aa Ca wsa v w' (ha.same hs)).mono fun _ _ h => h.cn) (fun w' hs => (Renamed_any Na Aa Ca wsa Ap Lp Cp p w' (ha.same hs) (Sl.same hp hs) hLp).mono fun _ _ h => h.cn) (fun w' hs => (Const_any (min Na 8) true w').mono fun _ _ h => h.cn) (fun w' hs => (Var_any (min Na 8) v w').mono fun _ _ h => h.cn)
  have : j = 0 ∨ j = 1 ∨ j = 2 := by omega
  rcases this with rfl | rfl | rfl
  · exact ⟨6, _, _, rfl, rfl, fun w' hs => (Binary_any 6 Na Aa Ca wsa Nb Ab Cb wsb w' (by omega) (ha.same hs) (hb.same hs)).mono fun _ _ h => h.cn⟩
  · exact ⟨10, _, _, rfl, rfl, fun w' hs => (Binary_any 10 Na Aa Ca wsa Nb Ab Cb wsb w' (by omega) (ha.same hs) (hb.same hs)).mono fun _ _ h => h.cn⟩
  · exact ⟨12, _, _, rfl, rfl, fun w' hs => (Binary_any 12 Na Aa Ca wsa Nb Ab Cb wsb w' (by omega) (ha.same hs) (hb.same hs)).mono fun _ _ h => h.cn⟩
theorem rcN_len {n : Int} {F : Nat → Bool} {e : Int} (h : e = 0 → n.toNat ≤ 16) : (rcN n (tab n.toNat F) e).2.length ≤ 1024 := by
  unfold rcN ansL
  split
  · rename_i he
    simp only
    rw [tab_len]
    exact nw_le (h he)
  · simp
theorem fmE_zero {b : Bool} (h : fmE b = 0) : b = true := by
  cases b with
  | false => simp [fmE] at h
  | true => rfl
theorem ansC_len (Na : Int) (wsa : List Nat) (Nb : Int) (wsb : List Nat) (v : Int) (p : List Int) : ∀ (i : Nat) (c : Cn), (ansC Na wsa Nb wsb v p)[i]? = some c → c.2.length ≤ 1024 := by
  intro i c hi
  have hb : ∀ (op : Nat) (b : Bool), binE op b = 0 → b = true := fun op b h => by
    unfold binE at h
    split at h
    · cases h
    · exact fmE_zero h
  have ho : ofE Na v wsa = 0 → frm Na wsa = true := fun h => by
    unfold ofE at h
    split at h
    · assumption
    · cases h
  have hr : rnE Na p wsa = 0 → frm Na wsa = true := fun h => by
    unfold rnE at h
    split at h
    · assumption
    · cases h
  have hm := List.mem_of_getElem? hi
  simp only [ansC, List.mem_append, List.mem_cons, List.not_mem_nil, or_false] at hm
  rcases hm with ((((((((rfl | rfl | rfl | rfl) | rfl) | rfl) | rfl) | rfl) | rfl) | rfl) | rfl)
  · exact rcN_len fun h => frm_16 (fmE_zero h)
  · exact rcN_len fun h => fm_16 (hb _ _ h)
  · exact rcN_len fun h => fm_16 (hb _ _ h)
  · exact rcN_len fun h => fm_16 (hb _ _ h)
  · exact rcN_len fun h => fm_16 (fmE_zero h)
  · exact rcN_len fun h => fm_16 (fmE_zero h)
  · exact rcN_len fun h => frm_16 (ho h)
  · exact rcN_len fun h => frm_16 (ho h)
  · exact rcN_len fun h => frm_16 (hr h)
  · exact rcN_len fun h => by have := cntE_ok h; omega
  · refine rcN_len fun h => ?_
    unfold varE at h
    split at h
    · rename_i h1; exact absurd h h1
    · rename_i h1
      have := cntE_ok (Classical.not_not.1 h1); omega
theorem ansC_size (Na : Int) (wsa : List Nat) (Nb : Int) (wsb : List Nat) (v : Int) (p : List Int) : (ansC Na wsa Nb wsb v p).length = 11 := rfl
theorem tt_at {w : World} {g k C : Nat} {ts : List Tt} (h : Own w 24 2 ttcell (some ⟨g, 0, none⟩) k C ts) {i : Nat} {t : Tt} (hi : ts[i]? = some t) : g < w.heap.size ∧ w.cell? ⟨g, i * 2, none⟩ = some (.int .i64 t.N) ∧ w.cell? ⟨g, i * 2 + 1, none⟩ = some (.slice t.A t.n t.C) := by
  obtain ⟨b, off, h1, h2, h3⟩ := (h.sl ttcell_len).get i t hi
  injection h1 with h1
  injection h1 with h1 h4
  subst h1 h4
  have a := h3 0 (by omega)
  have b := h3 1 (by omega)
  rw [Nat.zero_add] at a b
  exact ⟨h2, a, b⟩
set_option maxRecDepth 100000 in
set_option maxHeartbeats 8000000 in
theorem all_any (g h k C D h0 h1 : Nat) (ts us : List Tt) (cs : List Cn) (w : World) (hA : Own w 24 2 ttcell (some ⟨g, 0, none⟩) k C ts) (hB : Own w 24 2 ttcell (some ⟨h, 0, none⟩) k D us) (hT : TL h0 w ts cs) (hU : TL h1 w us cs) (hk : k ≤ 1000) (hcs : ∀ (i : Nat) (c : Cn), cs[i]? = some c → c.2.length ≤ 1024) :
    Calls Try.prog 47 #[.slice (some ⟨g, 0, none⟩) k C, .slice (some ⟨h, 0, none⟩) k D] w fun e w' => e = .returned (.bool true) ∧ Same w w' := by
  have hG : ∀ i, i < k → ∃ (N : Int) (Aa Ab : Option Addr) (Ca Cb : Nat) (ws : List Nat), ws.length ≤ 1000000000000000000 ∧ WL w Aa ws.length ws ∧ WL w Ab ws.length ws ∧ (g < w.heap.size ∧ w.cell? ⟨g, i * 2, none⟩ = some (.int .i64 N) ∧ w.cell? ⟨g, i * 2 + 1, none⟩ = some (.slice Aa ws.length Ca)) ∧ h < w.heap.size ∧ w.cell? ⟨h, i * 2, none⟩ = some (.int .i64 N) ∧ w.cell? ⟨h, i * 2 + 1, none⟩ = some (.slice Ab ws.length Cb) := by
    intro i hi
    obtain ⟨t, ht⟩ : ∃ t, ts[i]? = some t := ⟨_, List.getElem?_eq_getElem (by rw [← hA.len]; exact hi)⟩
    obtain ⟨u, hu⟩ : ∃ u, us[i]? = some u := ⟨_, List.getElem?_eq_getElem (by rw [← hB.len]; exact hi)⟩
    obtain ⟨c, h2, h3, h4⟩ := hT.own i t ht
    obtain ⟨d, h5, h6, h7⟩ := hU.own i u hu
    rw [h2] at h5
    injection h5 with h5
    subst h5
    have e1 := tt_at hA ht
    have e2 := tt_at hB hu
    have l1 := h4.len
    have l2 := h7.len
    rw [l1, h3] at e1
    rw [l2, h6] at e2
    rw [l1] at h4
    rw [l2] at h7
    have := hcs i c h2
    exact ⟨c.1, t.A, u.A, t.C, u.C, c.2, by omega, h4.sl ucell_len, h7.sl ucell_len, e1, e2⟩
  have HG := Lib.hid hG
  clear hG hA hB hT hU hcs
  go_enter Try.func47, Try.ntmps47
  go_wp2
  go_loopw [8] (fun q wi => ∃ j : Nat, j ≤ k ∧ q = .int .i64 j ∧ Same w wi) (fun q _ => k - (intOf q).toNat)
  case atStart => exact ⟨0, by omega, rfl, Frm.refl _ _⟩
  case round =>
    obtain ⟨j, hj, rfl, hs⟩ := hrel
    by_cases hlt : j < k
    · obtain ⟨N, Aa, Ab, Ca, Cb, ws, hl, hwa, hwb, ⟨g1, g2, g3⟩, g4, g5, g6⟩ := HG.out j hlt
      have HA2 := Lib.hid (Sl.same hwa hs)
      have HB2 := Lib.hid (Sl.same hwb hs)
      have HSM := Lib.hid (fun w h1 h2 => same_any N Aa ws.length Ca ws N Ab ws.length Cb ws w h1 h2 hl)
      have hsm : sm N N ws ws = true := sm_self _ _
      simp only [hsm] at HSM
      have c0 := (hs.cell (p := ⟨g, j * 2, none⟩) g1 id).trans g2
      have c1 := (hs.cell (p := ⟨g, j * 2 + 1, none⟩) g1 id).trans g3
      have c2 := (hs.cell (p := ⟨h, j * 2, none⟩) g4 id).trans g5
      have c3 := (hs.cell (p := ⟨h, j * 2 + 1, none⟩) g4 id).trans g6
      have l1 := Nat.lt_of_lt_of_le g1 hs.size
      have l2 := Nat.lt_of_lt_of_le g4 hs.size
      have HS := Lib.hid hs
      have hj0 : (0 : Int) ≤ j := by omega
      have hj1 : (j : Int) < k := by omega
      have hj2 : ¬ (k : Int) ≤ j := by omega
      clear hsm hwa hwb g1 g2 g3 g4 g5 g6 hs
      go_upto_region 4 with fail
      refine wp_quiet (by kernel_rfl) (by kernel_rfl) ?_
      repeat (any_goals (first | go_big_quiet_step ((go_at_call 35; exact quiet_call (HSM.out _ (Sl.same HA2.out (more_same _ _)) (Sl.same HB2.out (more_same _ _))))) | quiet_step ((go_at_call 35; exact quiet_call (HSM.out _ (Sl.same HA2.out (more_same _ _)) (Sl.same HB2.out (more_same _ _)))))))
      refine wpQuiet_nil ?_
      rintro wy ⟨q, hq⟩
      have hsz : Same wr wy := by rw [hq]; exact more_same _ q
      clear hq
      go_wp2
      go_roundw
      case rel => exact ⟨j + 1, by omega, by go_num, HS.out.trans hsz (fun _ _ h => h)⟩
      case measure => simp [intOf]; omega
    · obtain rfl : j = k := by omega
      go_wp2
      go_ret
      exact ⟨rfl, hs⟩
end Go.Proofs.Ytlggmoghgoeiiaa


/- Truth tables: TruthLaws: the walk. -/
namespace Go.Tk
open Go.RowKit Go.Sort
theorem effStep_off {P : Program} {ops : Array Oper} {C : World → Prop} {o : Oper} {a : Act} {w : World} {K : Act → World → Prop} (hg : Region.wanted o (yielded ops a.tmps) = false)
    (h : K (a.put o.dst undef) w) : effStep P ops C o a w K := by
  unfold effStep
  rw [if_neg (by rw [hg]; decide)]
  exact h
end Go.Tk
namespace Go.Proofs.Ytlggmoghgoeiiaa
open Go.RowKit Go.Tk

set_option maxRecDepth 100000 in
set_option maxHeartbeats 16000000 in
theorem laws_short (op : Nat) (Al : Option Addr) (Ln Cl : Nat) (w : World) (h3 : Ln < 3) : Calls Try.prog 7 #[.int .u8 op, .slice Al Ln Cl] w fun e w' => e = .returned (.bool true) ∧ Below w.heap.size w w' := by
  have h3' : (Ln : Int) < 3 := by omega
  go_enter Try.func7, Try.ntmps7
  go_wp2_with (fail)
  refine (awake_any w).mono ?_
  rintro e w2 ⟨rfl, hs12⟩
  have HS := Lib.hid hs12
  clear hs12
  go_upto_region 3 with fail
  refine wp_phS (fun _ => False) [([0, 1, 2, 3, 4, 5, 6, 7, 8, 9, 10, 11, 12], 13), ([], 14), ([15, 16, 17, 18, 19], 20)] (by kernel_rfl) (by kernel_rfl) ?_
  simp only [wpPh, pick, List.map_cons, List.map_nil, List.getD_cons_zero, List.getD_cons_succ]
  have hs : Same w2 w2.drew := (Frm.refl _ _).drew
  repeat (any_goals (first | go_big_quiet_step (fail) | quiet_step (fail)))
  refine wpQuiet_nil ?_
  refine effStep_off (by rfl) ?_
  repeat (any_goals (first | go_big_quiet_step (fail) | quiet_step (fail)))
  refine wpQuiet_nil ?_
  refine effStep_off (by rfl) ?_
  repeat (any_goals (first | go_big_quiet_step (fail) | quiet_step (fail)))
  refine wpQuiet_nil ?_
  replace HS := Lib.hid (HS.out.trans hs (fun _ _ h => h))
  go_wp2
  go_ret
  exact ⟨rfl, HS.out.to_below (Nat.le_refl _) (fun _ _ => id)⟩
set_option maxRecDepth 100000 in
set_option maxHeartbeats 16000000 in
theorem laws_unform (op bl off Ln Cl : Nat) (Na : Int) (Aa : Option Addr) (Ca : Nat) (wsa : List Nat) (Nb : Int) (Ab : Option Addr) (Cb : Nat) (wsb : List Nat) (Nc : Int) (Ac : Option Addr) (Cc : Nat) (wsc : List Nat) (w : World) (hLn : 3 ≤ Ln) (hbl : bl < w.heap.size) (ha : TbIn w ⟨Na, Aa, Ca, wsa⟩) (hb : TbIn w ⟨Nb, Ab, Cb, wsb⟩) (hc : TbIn w ⟨Nc, Ac, Cc, wsc⟩) (la0 : w.cell? ⟨bl, off, none⟩ = some (.int .i64 Na)) (la1 : w.cell? ⟨bl, off + 1, none⟩ = some (.slice Aa wsa.length Ca)) (lb0 : w.cell? ⟨bl, off + 2, none⟩ = some (.int .i64 Nb)) (lb1 : w.cell? ⟨bl, off + 3, none⟩ = some (.slice Ab wsb.length Cb)) (lc0 : w.cell? ⟨bl, off + 4, none⟩ = some (.int .i64 Nc)) (lc1 : w.cell? ⟨bl, off + 5, none⟩ = some (.slice Ac wsc.length Cc)) (hfr : fm [⟨Na, Aa, Ca, wsa⟩, ⟨Nb, Ab, Cb, wsb⟩, ⟨Nc, Ac, Cc, wsc⟩] = false) : Calls Try.prog 7 #[.int .u8 op, .slice (some ⟨bl, off, none⟩) Ln Cl] w fun e w' => e = .returned (.bool true) ∧ Below w.heap.size w w' := by
  have Ha := Lib.hid ha
  have HLa0 := Lib.hid la0
  have HLa1 := Lib.hid la1
  have Hb := Lib.hid hb
  have HLb0 := Lib.hid lb0
  have HLb1 := Lib.hid lb1
  have Hc := Lib.hid hc
  have HLc0 := Lib.hid lc0
  have HLc1 := Lib.hid lc1
  clear ha hb hc la0 la1 lb0 lb1 lc0 lc1
  have hL0 : (0 : Int) < Ln := by omega
  have hL1 : (1 : Int) < Ln := by omega
  have hL2 : (2 : Int) < Ln := by omega
  have hL3 : ¬ (Ln : Int) < 3 := by omega
  have hL4 : ¬ Ln < 3 := by omega
  have hdL : decide ((Ln : Int) < 3) = false := decide_eq_false hL3
  have HFM := Lib.hid hfr
  clear hfr
  go_enter Try.func7, Try.ntmps7
  go_wp2_with (fail)
  refine (awake_any w).mono ?_
  rintro e w2 ⟨rfl, hs12⟩
  have HS := Lib.hid hs12
  clear hs12
  have la0 : w2.cell? ⟨bl, off, none⟩ = some (.int .i64 Na) := ((HS.out).cell (p := ⟨bl, off, none⟩) hbl id).trans HLa0.out
  have la1 : w2.cell? ⟨bl, off + 1, none⟩ = some (.slice Aa wsa.length Ca) := ((HS.out).cell (p := ⟨bl, off + 1, none⟩) hbl id).trans HLa1.out
  have lb0 : w2.cell? ⟨bl, off + 2, none⟩ = some (.int .i64 Nb) := ((HS.out).cell (p := ⟨bl, off + 2, none⟩) hbl id).trans HLb0.out
  have lb1 : w2.cell? ⟨bl, off + 3, none⟩ = some (.slice Ab wsb.length Cb) := ((HS.out).cell (p := ⟨bl, off + 3, none⟩) hbl id).trans HLb1.out
  have lc0 : w2.cell? ⟨bl, off + 4, none⟩ = some (.int .i64 Nc) := ((HS.out).cell (p := ⟨bl, off + 4, none⟩) hbl id).trans HLc0.out
  have lc1 : w2.cell? ⟨bl, off + 5, none⟩ = some (.slice Ac wsc.length Cc) := ((HS.out).cell (p := ⟨bl, off + 5, none⟩) hbl id).trans HLc1.out
  have lbl := Nat.lt_of_lt_of_le hbl (HS.out).size
  go_upto_region 3 with fail
  refine wp_phS (fun _ => False) [([0, 1, 2, 3, 4, 5, 6, 7, 8, 9, 10, 11, 12], 13), ([], 14), ([15, 16, 17, 18, 19], 20)] (by kernel_rfl) (by kernel_rfl) ?_
  simp only [wpPh, pick, List.map_cons, List.map_nil, List.getD_cons_zero, List.getD_cons_succ]
  have hs : Same w2 w2.drew := (Frm.refl _ _).drew
  repeat (any_goals (first | go_big_quiet_step (fail) | quiet_step (fail)))
  refine wpQuiet_nil ?_
  refine effStep_on (by rfl) fun K hK => ?_
  go_simp
  have hs2 := Frm.alloc hs (.cells #[.int .i64 Na, .slice Aa wsa.length Ca, .int .i64 Nb, .slice Ab wsb.length Cb, .int .i64 Nc, .slice Ac wsc.length Cc] 24)
  refine hK _ _ (Lat.mk_ (Frm.mono hs2 (fun _ _ h => h.elim))) ?_
  clear hK K
  repeat (any_goals (first | go_big_quiet_step (fail) | quiet_step (fail)))
  refine wpQuiet_nil ?_
  refine effStep_on (by rfl) fun K hK => ?_
  go_simp
  refine call_world fun wl hwl => ?_
  have hsl : Same w2 wl := by rw [hwl]; exact hs2
  have hBL : Blk wl w2.heap.size 24 #[.int .i64 Na, .slice Aa wsa.length Ca, .int .i64 Nb, .slice Ab wsb.length Cb, .int .i64 Nc, .slice Ac wsc.length Cc] := by rw [hwl]; exact Blk.new _ _ _
  have htbs : Tbs wl w2.heap.size [⟨Na, Aa, Ca, wsa⟩, ⟨Nb, Ab, Cb, wsb⟩, ⟨Nc, Ac, Cc, wsc⟩] := by
    intro i t hi
    match i, hi with
    | 0, hi =>
      simp only [List.getElem?_cons_zero, Option.some.injEq] at hi
      subst hi
      exact ⟨hBL.lt, hBL.cell 0, hBL.cell 1⟩
    | 1, hi =>
      simp only [List.getElem?_cons_zero, List.getElem?_cons_succ, Option.some.injEq] at hi
      subst hi
      exact ⟨hBL.lt, hBL.cell 2, hBL.cell 3⟩
    | 2, hi =>
      simp only [List.getElem?_cons_zero, List.getElem?_cons_succ, Option.some.injEq] at hi
      subst hi
      exact ⟨hBL.lt, hBL.cell 4, hBL.cell 5⟩
    | i + 3, hi => simp at hi
  have hfc := good_any w2.heap.size 3 3 [⟨Na, Aa, Ca, wsa⟩, ⟨Nb, Ab, Cb, wsb⟩, ⟨Nc, Ac, Cc, wsc⟩] wl rfl (by decide) htbs (fun t ht => by
    simp only [List.mem_cons, List.not_mem_nil, or_false] at ht
    rcases ht with rfl | rfl | rfl
    · exact (Ha.out.ok.same (HS.out.trans hsl (fun _ _ h => h)))
    · exact (Hb.out.ok.same (HS.out.trans hsl (fun _ _ h => h)))
    · exact (Hc.out.ok.same (HS.out.trans hsl (fun _ _ h => h))))
  rw [HFM.out] at hfc
  refine hfc.mono ?_
  clear hfc htbs hBL hwl
  rintro e w4 ⟨rfl, hsm⟩
  have hs := hsl.trans hsm (fun _ _ h => h)
  clear hsl hsm hs2
  refine hK _ _ (Lat.mk_ (Frm.mono hs (fun _ _ h => h.elim))) ?_
  clear hK K
  clear la0 la1 lb0 lb1 lc0 lc1 lbl
  replace HS := Lib.hid (HS.out.trans hs (fun _ _ h => h))
  clear hs
  repeat (any_goals (first | go_big_quiet_step (fail) | quiet_step (fail)))
  refine wpQuiet_nil ?_
  go_wp2
  go_ret
  exact ⟨rfl, HS.out.to_below (Nat.le_refl _) (fun _ _ => id)⟩
set_option maxRecDepth 100000 in
set_option maxHeartbeats 16000000 in
theorem laws_op (op bl off Ln Cl : Nat) (Na : Int) (Aa : Option Addr) (Ca : Nat) (wsa : List Nat) (Nb : Int) (Ab : Option Addr) (Cb : Nat) (wsb : List Nat) (Nc : Int) (Ac : Option Addr) (Cc : Nat) (wsc : List Nat) (w : World) (hopl : op < 256) (hLn : 3 ≤ Ln) (hbl : bl < w.heap.size) (ha : TbIn w ⟨Na, Aa, Ca, wsa⟩) (hb : TbIn w ⟨Nb, Ab, Cb, wsb⟩) (hc : TbIn w ⟨Nc, Ac, Cc, wsc⟩) (la0 : w.cell? ⟨bl, off, none⟩ = some (.int .i64 Na)) (la1 : w.cell? ⟨bl, off + 1, none⟩ = some (.slice Aa wsa.length Ca)) (lb0 : w.cell? ⟨bl, off + 2, none⟩ = some (.int .i64 Nb)) (lb1 : w.cell? ⟨bl, off + 3, none⟩ = some (.slice Ab wsb.length Cb)) (lc0 : w.cell? ⟨bl, off + 4, none⟩ = some (.int .i64 Nc)) (lc1 : w.cell? ⟨bl, off + 5, none⟩ = some (.slice Ac wsc.length Cc)) (hfr : fm [⟨Na, Aa, Ca, wsa⟩, ⟨Nb, Ab, Cb, wsb⟩, ⟨Nc, Ac, Cc, wsc⟩] = true) (h15 : 15 < op) : Calls Try.prog 7 #[.int .u8 op, .slice (some ⟨bl, off, none⟩) Ln Cl] w fun e w' => e = .returned (.bool true) ∧ Below w.heap.size w w' := by
  have Ha := Lib.hid ha
  have HLa0 := Lib.hid la0
  have HLa1 := Lib.hid la1
  have Hb := Lib.hid hb
  have HLb0 := Lib.hid lb0
  have HLb1 := Lib.hid lb1
  have Hc := Lib.hid hc
  have HLc0 := Lib.hid lc0
  have HLc1 := Lib.hid lc1
  clear ha hb hc la0 la1 lb0 lb1 lc0 lc1
  have hL0 : (0 : Int) < Ln := by omega
  have hL1 : (1 : Int) < Ln := by omega
  have hL2 : (2 : Int) < Ln := by omega
  have hL3 : ¬ (Ln : Int) < 3 := by omega
  have hL4 : ¬ Ln < 3 := by omega
  have hdL : decide ((Ln : Int) < 3) = false := decide_eq_false hL3
  have h15' : (op : Int) > 15 := by omega
  have HFM := Lib.hid hfr
  clear hfr
  go_enter Try.func7, Try.ntmps7
  go_wp2_with (fail)
  refine (awake_any w).mono ?_
  rintro e w2 ⟨rfl, hs12⟩
  have HS := Lib.hid hs12
  clear hs12
  have la0 : w2.cell? ⟨bl, off, none⟩ = some (.int .i64 Na) := ((HS.out).cell (p := ⟨bl, off, none⟩) hbl id).trans HLa0.out
  have la1 : w2.cell? ⟨bl, off + 1, none⟩ = some (.slice Aa wsa.length Ca) := ((HS.out).cell (p := ⟨bl, off + 1, none⟩) hbl id).trans HLa1.out
  have lb0 : w2.cell? ⟨bl, off + 2, none⟩ = some (.int .i64 Nb) := ((HS.out).cell (p := ⟨bl, off + 2, none⟩) hbl id).trans HLb0.out
  have lb1 : w2.cell? ⟨bl, off + 3, none⟩ = some (.slice Ab wsb.length Cb) := ((HS.out).cell (p := ⟨bl, off + 3, none⟩) hbl id).trans HLb1.out
  have lc0 : w2.cell? ⟨bl, off + 4, none⟩ = some (.int .i64 Nc) := ((HS.out).cell (p := ⟨bl, off + 4, none⟩) hbl id).trans HLc0.out
  have lc1 : w2.cell? ⟨bl, off + 5, none⟩ = some (.slice Ac wsc.length Cc) := ((HS.out).cell (p := ⟨bl, off + 5, none⟩) hbl id).trans HLc1.out
  have lbl := Nat.lt_of_lt_of_le hbl (HS.out).size
  go_upto_region 3 with fail
  refine wp_phS (fun _ => False) [([0, 1, 2, 3, 4, 5, 6, 7, 8, 9, 10, 11, 12], 13), ([], 14), ([15, 16, 17, 18, 19], 20)] (by kernel_rfl) (by kernel_rfl) ?_
  simp only [wpPh, pick, List.map_cons, List.map_nil, List.getD_cons_zero, List.getD_cons_succ]
  have hs : Same w2 w2.drew := (Frm.refl _ _).drew
  repeat (any_goals (first | go_big_quiet_step (fail) | quiet_step (fail)))
  refine wpQuiet_nil ?_
  refine effStep_on (by rfl) fun K hK => ?_
  go_simp
  have hs2 := Frm.alloc hs (.cells #[.int .i64 Na, .slice Aa wsa.length Ca, .int .i64 Nb, .slice Ab wsb.length Cb, .int .i64 Nc, .slice Ac wsc.length Cc] 24)
  refine hK _ _ (Lat.mk_ (Frm.mono hs2 (fun _ _ h => h.elim))) ?_
  clear hK K
  repeat (any_goals (first | go_big_quiet_step (fail) | quiet_step (fail)))
  refine wpQuiet_nil ?_
  refine effStep_on (by rfl) fun K hK => ?_
  go_simp
  refine call_world fun wl hwl => ?_
  have hsl : Same w2 wl := by rw [hwl]; exact hs2
  have hBL : Blk wl w2.heap.size 24 #[.int .i64 Na, .slice Aa wsa.length Ca, .int .i64 Nb, .slice Ab wsb.length Cb, .int .i64 Nc, .slice Ac wsc.length Cc] := by rw [hwl]; exact Blk.new _ _ _
  have htbs : Tbs wl w2.heap.size [⟨Na, Aa, Ca, wsa⟩, ⟨Nb, Ab, Cb, wsb⟩, ⟨Nc, Ac, Cc, wsc⟩] := by
    intro i t hi
    match i, hi with
    | 0, hi =>
      simp only [List.getElem?_cons_zero, Option.some.injEq] at hi
      subst hi
      exact ⟨hBL.lt, hBL.cell 0, hBL.cell 1⟩
    | 1, hi =>
      simp only [List.getElem?_cons_zero, List.getElem?_cons_succ, Option.some.injEq] at hi
      subst hi
      exact ⟨hBL.lt, hBL.cell 2, hBL.cell 3⟩
    | 2, hi =>
      simp only [List.getElem?_cons_zero, List.getElem?_cons_succ, Option.some.injEq] at hi
      subst hi
      exact ⟨hBL.lt, hBL.cell 4, hBL.cell 5⟩
    | i + 3, hi => simp at hi
  have hfc := good_any w2.heap.size 3 3 [⟨Na, Aa, Ca, wsa⟩, ⟨Nb, Ab, Cb, wsb⟩, ⟨Nc, Ac, Cc, wsc⟩] wl rfl (by decide) htbs (fun t ht => by
    simp only [List.mem_cons, List.not_mem_nil, or_false] at ht
    rcases ht with rfl | rfl | rfl
    · exact (Ha.out.ok.same (HS.out.trans hsl (fun _ _ h => h)))
    · exact (Hb.out.ok.same (HS.out.trans hsl (fun _ _ h => h)))
    · exact (Hc.out.ok.same (HS.out.trans hsl (fun _ _ h => h))))
  rw [HFM.out] at hfc
  refine hfc.mono ?_
  clear hfc htbs hBL hwl
  rintro e w4 ⟨rfl, hsm⟩
  have hs := hsl.trans hsm (fun _ _ h => h)
  clear hsl hsm hs2
  refine hK _ _ (Lat.mk_ (Frm.mono hs (fun _ _ h => h.elim))) ?_
  clear hK K
  clear la0 la1 lb0 lb1 lc0 lc1 lbl
  replace HS := Lib.hid (HS.out.trans hs (fun _ _ h => h))
  clear hs
  repeat (any_goals (first | go_big_quiet_step (fail) | quiet_step (fail)))
  refine wpQuiet_nil ?_
  go_wp2
  go_ret
  exact ⟨rfl, HS.out.to_below (Nat.le_refl _) (fun _ _ => id)⟩
end Go.Proofs.Ytlggmoghgoeiiaa
