/- Truth tables: the reference's Values. -/
import Derived.Test.YtlggmoghgoeiiaaTrRForm
namespace Go.Tk
/-- values in a row -/
def vals (M : Nat) (F : Nat → Bool) : List Bool := (List.range M).map F
def mixF (G F : Nat → Bool) (k : Nat) : Nat → Bool := fun i => if i < k then G i else F i
theorem vals_len (M : Nat) (F : Nat → Bool) : (vals M F).length = M := by simp [vals]
theorem vals_get {M i : Nat} {F : Nat → Bool} (h : i < M) : (vals M F)[i]? = some (F i) := by simp [vals, h]
theorem vals_congr {M : Nat} {F G : Nat → Bool} (h : ∀ i, i < M → F i = G i) : vals M F = vals M G := by
  unfold vals
  apply List.map_congr_left
  intro i hi
  exact h i (List.mem_range.1 hi)
theorem vals_zero (M : Nat) (G F : Nat → Bool) : vals M (mixF G F 0) = vals M F := vals_congr fun i _ => by unfold mixF; rw [if_neg (by omega)]
theorem vals_false (M : Nat) : vals M (fun _ => false) = List.replicate M false := by
  unfold vals
  simp [List.map_const']
theorem vals_full (M : Nat) (G F : Nat → Bool) : vals M (mixF G F M) = vals M G := vals_congr fun i h => by unfold mixF; rw [if_pos h]
theorem vals_set {M k : Nat} {G F : Nat → Bool} (h : k < M) : (vals M (mixF G F k)).set k (G k) = vals M (mixF G F (k + 1)) := by
  apply List.ext_getElem?
  intro i
  rcases Nat.lt_or_ge i M with hi | hi
  · rw [List.getElem?_set, vals_len, vals_get hi, vals_get hi]
    split
    · rename_i he; subst he; simp [mixF]
    · rename_i he
      congr 1
      unfold mixF
      by_cases h1 : i < k
      · rw [if_pos h1, if_pos (by omega)]
      · rw [if_neg h1, if_neg (by omega)]
  · rw [List.getElem?_eq_none (by simp [vals_len, hi]), List.getElem?_eq_none (by rw [vals_len]; exact hi)]
theorem mix_at (G F : Nat → Bool) (k : Nat) : mixF G F k k = F k := by unfold mixF; rw [if_neg (by omega)]
end Go.Tk
namespace Go.Proofs.Ytlggmoghgoeiiaa
open Go.RowKit Go.Tk

abbrev OwnB (w : World) (A : Option Addr) (N C : Nat) (bs : List Bool) : Prop := Row1 w 4 (fun b : Bool => .bool b) A N C bs
abbrev BL (w : World) (A : Option Addr) (n : Nat) (bs : List Bool) : Prop := Sl w 1 (fun b : Bool => [.bool b]) A n bs
theorem BL.at1 {w : World} {A : Option Addr} {n : Nat} {bs : List Bool} (h : BL w A n bs) {i : Nat} {x : Bool} (hi : bs[i]? = some x) : ∃ b off, A = some ⟨b, off, none⟩ ∧ b < w.heap.size ∧ w.cell? ⟨b, off + i, none⟩ = some (.bool x) := by
  obtain ⟨b, off, h1, h2, h3⟩ := h.get i x hi
  refine ⟨b, off, h1, h2, ?_⟩
  have := h3 0 (by omega)
  simpa using this
/-- a row of booleans of its own -/
def NewB (w : World) (bs : List Bool) (A : Option Addr) (C : Nat) (w' : World) : Prop := OwnB w' A bs.length C bs ∧ Fresh w.heap.size A ∧ Same w w'
theorem info_bool : (Try.prog.info? 4).map (fun i => (i.zero, i.size, i.bytes)) = some (some (.bool false), 1, 1) := by kernel_rfl
theorem pow_lt_shift {n : Nat} (h : n ≤ 16) : wrap64 ((2 : Int) ^ n) = ((2 ^ n : Nat) : Int) := by
  have hp := pow_le16 h
  rw [pow_int]
  generalize 2 ^ n = p at hp
  exact IntWalk.wrap64_in _ (by omega)
theorem pow_lt_shift2 {n : Nat} (h : n ≤ 16) : IntKind.i64.wrap ((2 : Int) ^ n) = ((2 ^ n : Nat) : Int) := by
  have hp := pow_le16 h
  rw [pow_int]
  generalize 2 ^ n = p at hp
  exact IntWalk.i64_in _ (by omega)
theorem bit_val (x r : Nat) : (((x / 2 ^ r % 2 : Nat) : Int) == 1) = x.testBit r := by
  rw [testBit_dm, Bool.eq_iff_iff, beq_iff_eq, decide_eq_true_eq]
  omega
set_option maxRecDepth 100000 in
set_option maxHeartbeats 4000000 in
theorem values_any (n C : Nat) (A : Option Addr) (ws : List Nat) (w : World) (h : TbOk w ⟨n, A, C, ws⟩) (hf : FormN n ws) :
    Calls Try.prog 54 #[.agg #[.int .i64 n, .slice A ws.length C]] w fun e w' => ∃ A' C', e = .returned (.slice A' (2 ^ n) C') ∧ NewB w (vals (2 ^ n) (vb ws)) A' C' w' := by
  have hn := hf.n16
  have hsw := pow_lt_shift hn
  have hsw2 := pow_lt_shift2 hn
  have hp16 := pow_le16 hn
  have hdl : ∀ i, i < 2 ^ n → ∃ x, ws[i / 64]? = some x := fun i hi => ⟨_, List.getElem?_eq_getElem (by rw [hf.len]; exact div_lt_nw hi)⟩
  have hn0 : (0 : Int) ≤ n := by omega
  have hlen : 1 ≤ ws.length := by rw [hf.len]; exact nw_pos n
  have hmn : min n 64 = n := by omega
  obtain ⟨M, hM⟩ : ∃ M, 2 ^ n = M := ⟨_, rfl⟩
  rw [hM] at hsw hsw2 hp16 hdl ⊢
  clear hM
  have hmk := fun w => run_make_n (P := Try.prog) Try.underlying26 info_bool .i64 .i64 M (show 1 * M ≤ 281474976710656 by omega) (show M ≤ 9223372036854775807 by omega) w
  have hset : ∀ k, k < M → (vals M (mixF (vb ws) (fun _ => false) k)).set k (vb ws k) = vals M (mixF (vb ws) (fun _ => false) (k + 1)) := fun k h => vals_set h
  have hfull := vals_full M (vb ws) (fun _ => false)
  have HSET := Lib.hid hset
  have HFULL := Lib.hid hfull
  have HDL := Lib.hid hdl
  have H := Lib.hid h
  have HLEN := Lib.hid hlen
  clear h hf hset hfull hdl hlen
  go_enter Try.func54, Try.ntmps54
  go_upto_region 2 with fail
  refine wp_world fun w1 hw1 => ?_
  have hs1 : Same w w1 := by rw [hw1]; exact ((Frm.refl _ _).alloc _).alloc _
  have hO : OwnB w1 (some ⟨w.heap.size + 1, 0, none⟩) M M (vals M (mixF (vb ws) (fun _ => false) 0)) := by
    rw [vals_zero, vals_false, hw1]
    have := Own.ofMade (m := 1) (w.alloc (.cells #[.int .i64 n, .slice A ws.length C] 24)) 4 (fun b : Bool => [.bool b]) (fun _ => rfl) (by decide) false M (show M ≤ 9223372036854775807 by omega) rfl
    simpa using this
  have hB : Blk w1 w.heap.size 24 #[.int .i64 n, .slice A ws.length C] := by rw [hw1]; exact (Blk.new w _ _).alloc _
  clear hw1 hmk
  obtain ⟨D, hD⟩ : ∃ D, w.heap.size + 1 = D := ⟨_, rfl⟩
  rw [hD] at hO ⊢
  have hDn : w.heap.size ≠ D := by omega
  have hDl : w.heap.size ≤ D := by omega
  clear hD
  have HS1 := Lib.hid hs1
  have HO := Lib.hid hO
  have HB := Lib.hid hB
  clear hs1 hO hB
  go_wp2
  go_loopw [11] (fun i wr => ∃ k : Nat, k ≤ M ∧ i = .int .i64 k ∧ Same w wr ∧ Blk wr w.heap.size 24 #[.int .i64 n, .slice A ws.length C] ∧ OwnB wr (some ⟨D, 0, none⟩) M M (vals M (mixF (vb ws) (fun _ => false) k))) (fun i _ => M - (intOf i).toNat)
  case atStart => exact ⟨0, by omega, rfl, HS1.out, HB.out, HO.out⟩
  case round =>
    clear HS1 HB HO
    obtain ⟨k, hk, rfl, hs, hB, hO⟩ := hrel
    by_cases hlt : k < M
    · have hk0 : (0 : Int) ≤ k := by omega
      have hk1 : (k : Int) < M := by omega
      obtain ⟨x, hx⟩ := HDL.out k hlt
      have hwl := (Sl.same H.out.wl hs)
      obtain ⟨b, off, hA, hbl, hc⟩ := WL.at1 hwl hx
      have hxs := H.out.small.at1 hx
      have hvb : x.testBit (k % 64) = vb ws k := by unfold vb; rw [List.getD_eq_getElem?_getD, hx]; rfl
      have hkl : k / 64 < ws.length := lt_of_get hx
      have hbv := bit_val x (k % 64)
      rw [hvb] at hbv
      have hvbs : ∃ v, vb ws k = v := ⟨_, rfl⟩
      obtain ⟨v, hv⟩ := hvbs
      have hst := Own.put1 hO (i := k) (by rw [vals_len]; exact hlt) (vb ws k)
      rw [HSET.out k hlt, hv] at hst
      rw [hv] at hbv
      simp only at hA
      subst hA
      have hc0 : wr.cell? ⟨w.heap.size, 1, none⟩ = some (.slice (some ⟨b, off, none⟩) ws.length C) := hB.cell 1
      have hBl := hB.lt
      have hfD := Own.free hO k
      obtain ⟨vo, hvo⟩ : ∃ v, (vals M (mixF (vb ws) (fun _ => false) k))[k]? = some v := ⟨_, vals_get hlt⟩
      obtain ⟨sb, hsb, hDl2, hcD⟩ := Own.at1 (c := fun b : Bool => .bool b) hO hvo
      injection hsb with hsb
      injection hsb with hsb
      subst hsb
      have hm64 : min (k % 64) 64 = k % 64 := by omega
      have hq1 : x / 2 ^ (k % 64) ≤ x := Nat.div_le_self _ _
      have hkk : k % 64 < 64 := by omega
      have hn1 : (k : Int) / 64 = ((k / 64 : Nat) : Int) := by omega
      have hn2 : (k : Int) % 64 = ((k % 64 : Nat) : Int) := by omega
      have hpw : ((x : Nat) : Int) / 2 ^ (k % 64) = ((x / 2 ^ (k % 64) : Nat) : Int) := by rw [pow_int]; exact (Int.natCast_ediv _ _).symm
      have hbx : k / 64 < ws.length := hkl
      have HS := Lib.hid hs
      have HBw := Lib.hid hB
      have HOw := Lib.hid hO
      have HST := Lib.hid hst
      clear hs hB hO hst hx hvb hwl hv hvo
      generalize k % 64 = r at *
      generalize x / 2 ^ r = y at *
      have hbv2 : ((y : Int) % 2 == 1) = v := by rw [← hbv]; simp
      have hy : y < 18446744073709551616 := by omega
      generalize k / 64 = qq at *
      go_upto_region 5 with fail
      refine wp_read 14 ?_
      simp only [List.take_succ_cons, List.take_zero, List.drop_succ_cons, List.drop_zero]
      repeat (any_goals (first | go_big_quiet_step (fail) | quiet_step (fail)))
      refine wpQuiet_nil ?_
      clear hbv hbv2 hpw hn1 hn2
      go_wp2
      go_roundw
      case rel => exact ⟨k + 1, by omega, by go_num, HS.out.setNew k _ hDl, HBw.out.far (p := ⟨D, k, none⟩) hDn _, HST.out⟩
      case measure => simp [intOf]; omega
    · obtain rfl : k = M := by omega
      rw [HFULL.out] at hO
      have HS := Lib.hid hs
      have HOw := Lib.hid hO
      clear hs hB hO
      go_wp2
      go_ret
      exact ⟨_, _, rfl, by rw [vals_len]; exact HOw.out, fresh_some hDl, HS.out⟩
end Go.Proofs.Ytlggmoghgoeiiaa
