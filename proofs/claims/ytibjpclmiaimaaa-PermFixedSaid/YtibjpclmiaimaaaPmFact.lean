/- Permutations: the reference's Factorial and DocRank. -/
import Derived.Test.YtibjpclmiaimaaaPmRank2
namespace Go.Proofs.Ytibjpclmiaimaaa
open Go.RowKit Go.Tk

theorem fact_mono {a b : Nat} (h : a ≤ b) : fact a ≤ fact b := by
  induction b with
  | zero => rw [show a = 0 by omega]; exact Nat.le_refl _
  | succ b ih =>
    rcases Nat.lt_or_ge a (b + 1) with h1 | h1
    · have := ih (by omega)
      rw [show fact (b + 1) = (b + 1) * fact b from rfl]
      have h2 := Nat.le_mul_of_pos_left (fact b) (show 0 < b + 1 by omega)
      omega
    · rw [show a = b + 1 by omega]; exact Nat.le_refl _
set_option maxHeartbeats 1000000 in
theorem factorial_any (n : Nat) (w : World) (hn : n ≤ 20) : Calls Try.prog 46 #[.int .i64 n] w fun e w' => e = .returned (.int .u64 (fact n)) ∧ w = w' := by
  obtain ⟨fn, hfn⟩ : ∃ fn, fact n = fn := ⟨_, rfl⟩
  rw [hfn]
  have HFN := Lib.hid hfn
  clear hfn
  go_enter Try.func46, Try.ntmps46
  go_wp2
  go_loopw [3, 4] (fun s i wr => ∃ m : Nat, 1 ≤ m ∧ (m ≤ n ∨ m = 1) ∧ i = .int .i64 ((m : Int) + 1) ∧ s = .int .u64 (fact m : Nat) ∧ w = wr) (fun _ i _ => n + 2 - (intOf i).toNat)
  case atStart => exact ⟨1, by omega, by omega, rfl, rfl, rfl⟩
  case round =>
    obtain ⟨m, hm1, hm2, rfl, rfl, rfl⟩ := hrel
    by_cases hlt : (m : Int) + 1 ≤ n
    · have hf := fact_le20 (n := m + 1) (by omega)
      have hst : fact (m + 1) = (m + 1) * fact m := rfl
      obtain ⟨f0, hf0⟩ : ∃ f0, fact m = f0 := ⟨_, rfl⟩
      rw [hf0] at hst ⊢
      rw [hst] at hf
      have hq0 : IntKind.u64.wrap ((m : Int) + 1) = (m : Int) + 1 := IntWalk.u64_in _ (by omega)
      have hq1 : IntKind.u64.wrap ((f0 : Int) * ((m : Int) + 1)) = (((m + 1) * f0 : Nat) : Int) := by
        rw [show (f0 : Int) * ((m : Int) + 1) = (((m + 1) * f0 : Nat) : Int) by rw [Nat.mul_comm]; simp]
        exact IntWalk.u64_in _ (by omega)
      have HST := Lib.hid hst
      clear hst hf0 hf
      go_upto_region 5 with fail
      refine wp_read 4 ?_
      simp only [List.take_succ_cons, List.take_zero, List.drop_succ_cons, List.drop_zero]
      repeat (any_goals (first | go_big_quiet_step (fail) | quiet_step (fail)))
      refine wpQuiet_nil ?_
      clear hq0 hq1
      go_wp2
      go_roundw
      case rel => exact ⟨m + 1, by omega, by omega, by go_num, by rw [HST.out]; simp, trivial⟩
      case measure => simp [intOf]; omega
    · have hfin : fact m = fn := by
        rw [← HFN.out]
        rcases hm2 with h | h
        · rw [show m = n by omega]
        · subst h
          rcases Nat.lt_or_ge n 1 with h | h
          · rw [show n = 0 by omega]; rfl
          · rw [show n = 1 by omega]
      rw [hfin]
      clear hfin
      go_wp2
      go_ret
      exact ⟨rfl, rfl⟩

/-- the document's sum -/
def rdS (xs : List Int) : Nat → Nat
  | 0 => 0
  | k + 1 => rdS xs k + lessC xs k * fact (xs.length - 1 - k)
theorem rdS_eq (xs : List Int) : ∀ k, k ≤ xs.length → rkS xs k * fact (xs.length - k) = rdS xs k
  | 0, _ => by simp [rkS, rdS]
  | k + 1, h => by
    have ih := rdS_eq xs k (by omega)
    rw [rkS, rdS, ← ih, Nat.add_mul, Nat.mul_assoc, show xs.length - (k + 1) = xs.length - 1 - k by omega]
    congr 1
    rw [show xs.length - k = (xs.length - 1 - k) + 1 by omega]
    rfl
theorem rdS_full (xs : List Int) : rdS xs xs.length = rkS xs xs.length := by
  rw [← rdS_eq xs xs.length (Nat.le_refl _), Nat.sub_self]
  simp [fact]
theorem rdS_lt {xs : List Int} (h : xs.length ≤ 20) {k : Nat} (hk : k ≤ xs.length) : rdS xs k < 2432902008176640000 := by
  rw [← rdS_eq xs k hk]
  have h1 := rkS_lt xs k hk
  have h2 := dsc_fact xs.length k hk
  have h3 := fact_le20 h
  have h4 : (rkS xs k + 1) * fact (xs.length - k) ≤ dsc xs.length k * fact (xs.length - k) := Nat.mul_le_mul_right _ h1
  have h5 := fact_pos (xs.length - k)
  rw [Nat.add_mul, Nat.one_mul] at h4
  omega

set_option maxHeartbeats 2000000 in
theorem docRank_any (A : Option Addr) (n C : Nat) (xs : List Int) (w : World) (h : IL w A n xs) (hr : n * 8 ≤ 140737488351232) :
    Calls Try.prog 27 #[.slice A n C] w fun e w' => e = .returned (.tuple #[.int .u64 (rkV xs), .int .i64 (rkE xs)]) ∧ Same w w' := by
  obtain rfl := h.len
  obtain ⟨c, hcc⟩ : ∃ c, chk xs = c := ⟨_, rfl⟩
  have HCC := Lib.hid hcc
  have H := Lib.hid h
  by_cases hc : c = 4
  · have hy : rkE xs = 4 := by unfold rkE; rw [hcc, if_pos hc]
    have hv : rkV xs = 0 := by unfold rkV; rw [hy, if_neg (by decide)]
    rw [hy, hv]
    subst hc
    clear h hcc hy hv
    go_enter Try.func27, Try.ntmps27
    go_wp2_with (fail)
    refine (doccheck_any A _ C xs w H.out hr).mono ?_
    rintro e w1 ⟨rfl, rfl⟩
    rw [HCC.out]
    go_wp2
    go_ret2
    exact ⟨rfl, Frm.refl _ _⟩
  · have hc' : (c == 4) = false := by simpa using hc
    by_cases h20 : 20 < xs.length
    · have hy : rkE xs = 6 := by unfold rkE; rw [hcc, if_neg hc, if_pos h20]
      have hv : rkV xs = 0 := by unfold rkV; rw [hy, if_neg (by decide)]
      rw [hy, hv]
      have h20' : (xs.length : Int) > 20 := by omega
      clear h hcc hy hv hc
      go_enter Try.func27, Try.ntmps27
      go_wp2_with (fail)
      refine (doccheck_any A _ C xs w H.out hr).mono ?_
      rintro e w1 ⟨rfl, rfl⟩
      rw [HCC.out]
      go_wp2
      go_ret2
      exact ⟨rfl, Frm.refl _ _⟩
    · have hy : rkE xs = 0 := by unfold rkE; rw [hcc, if_neg hc, if_neg h20]
      have hv : rkV xs = rdS xs xs.length := by unfold rkV; rw [hy, if_pos rfl, rdS_full]
      rw [hy, hv]
      have h20' : ¬ (xs.length : Int) > 20 := by omega
      have h20n : xs.length ≤ 20 := by omega
      clear h hcc hy hv hc
      go_enter Try.func27, Try.ntmps27
      go_wp2_with (fail)
      refine (doccheck_any A _ C xs w H.out hr).mono ?_
      rintro e w1 ⟨rfl, rfl⟩
      rw [HCC.out]
      go_wp2
      go_loopw [5, 6] (fun s i wr => ∃ k : Nat, k ≤ xs.length ∧ i = .int .i64 k ∧ s = .int .u64 (rdS xs k : Nat) ∧ Same w wr) (fun _ i _ => xs.length - (intOf i).toNat)
      case atStart => exact ⟨0, by omega, rfl, rfl, Frm.refl _ _⟩
      case round =>
        obtain ⟨k, hk, rfl, rfl, hs⟩ := hrel
        by_cases hlt : k < xs.length
        · obtain ⟨x, hx⟩ : ∃ x, xs[k]? = some x := ⟨_, List.getElem?_eq_getElem hlt⟩
          have hi0 : (0 : Int) ≤ k := by omega
          have hi1 : (k : Int) < xs.length := by omega
          have hx' : xs.getD k 0 = x := by simp [List.getD_eq_getElem?_getD, hx]
          obtain ⟨r0, hr0⟩ : ∃ r0, rdS xs k = r0 := ⟨_, rfl⟩
          have hnb := rdS_lt h20n (show k + 1 ≤ xs.length by omega)
          have hnext : rdS xs (k + 1) = r0 + lessC xs k * fact (xs.length - 1 - k) := by rw [rdS, hr0]
          rw [hnext] at hnb
          rw [hr0]
          have HS := Lib.hid hs
          have HX := Lib.hid hx
          have HX' := Lib.hid hx'
          have HNEXT := Lib.hid hnext
          clear hs hx hx' hr0 hnext
          go_wp2
          go_loopw [7, 8] (fun s j wv => ∃ m : Nat, k + 1 ≤ m ∧ m ≤ xs.length ∧ j = .int .i64 m ∧ s = .int .i64 (((xs.drop (k + 1)).take (m - (k + 1))).countP (fun y => decide (y < x)) : Nat) ∧ Same w wv) (fun _ j _ => xs.length - (intOf j).toNat)
          case atStart => exact ⟨k + 1, by omega, by omega, by go_num, by simp, HS.out⟩
          case round =>
            obtain ⟨m, hm1, hm2, rfl, rfl, hsv⟩ := hrel
            have hcl := List.countP_le_length (p := fun y => decide (y < x)) (l := (xs.drop (k + 1)).take (m - (k + 1)))
            rw [List.length_take, List.length_drop] at hcl
            have HSV := Lib.hid hsv
            by_cases hmk : m < xs.length
            · obtain ⟨y, hy⟩ : ∃ y, xs[m]? = some y := ⟨_, List.getElem?_eq_getElem hmk⟩
              obtain ⟨b, off, rfl, hb1, hc1⟩ := (Sl.same H.out hsv).at1 hy
              obtain ⟨b2, off2, hA2, hb2, hc2⟩ := (Sl.same H.out hsv).at1 HX.out
              injection hA2 with hA2
              injection hA2 with hA2 hA3
              subst hA2 hA3
              have hj0 : (0 : Int) ≤ m := by omega
              have hj1 : (m : Int) < xs.length := by omega
              have hy2 : (xs.drop (k + 1))[m - (k + 1)]? = some y := by rw [List.getElem?_drop, show k + 1 + (m - (k + 1)) = m by omega]; exact hy
              have hnx := countP_snoc (fun y => decide (y < x)) ((xs.drop (k + 1)).take (m - (k + 1))) y
              rw [← take_snoc hy2, show m - (k + 1) + 1 = m + 1 - (k + 1) by omega] at hnx
              obtain ⟨cm, hcm⟩ : ∃ cm, ((xs.drop (k + 1)).take (m - (k + 1))).countP (fun y => decide (y < x)) = cm := ⟨_, rfl⟩
              rw [hcm] at hnx hcl ⊢
              have HNX := Lib.hid hnx
              clear hnx hsv hy hy2 hcm
              by_cases hgt : y < x
              · have hd : decide (y < x) = true := by simpa using hgt
                have HD := Lib.hid hd
                clear hd
                go_wp2
                refine wp_quiet (by kernel_rfl) (by kernel_rfl) ?_
                repeat (any_goals (first | go_big_quiet_step (fail) | quiet_step (fail)))
                refine wpQuiet_nil ?_
                rintro _ ⟨q, rfl⟩
                have HS2 := Lib.hid (HSV.out.trans (more_same _ q) (fun _ _ h => h))
                go_wp2
                go_roundw
                case rel => exact ⟨m + 1, by omega, by omega, by go_num, by rw [HNX.out, HD.out]; go_num, HS2.out⟩
                case measure => simp [intOf]; omega
              · have hd : decide (y < x) = false := by simpa using hgt
                have HD := Lib.hid hd
                clear hd
                go_wp2
                refine wp_quiet (by kernel_rfl) (by kernel_rfl) ?_
                repeat (any_goals (first | go_big_quiet_step (fail) | quiet_step (fail)))
                refine wpQuiet_nil ?_
                rintro _ ⟨q, rfl⟩
                have HS2 := Lib.hid (HSV.out.trans (more_same _ q) (fun _ _ h => h))
                go_wp2
                go_roundw
                case rel => exact ⟨m + 1, by omega, by omega, by go_num, by rw [HNX.out, HD.out]; rfl, HS2.out⟩
                case measure => simp [intOf]; omega
            · obtain rfl : m = xs.length := by omega
              have hlc : ((xs.drop (k + 1)).take (xs.length - (k + 1))).countP (fun y => decide (y < x)) = lessC xs k := by
                unfold lessC
                rw [HX'.out, List.take_of_length_le (by simp)]
              rw [hlc] at hcl ⊢
              obtain ⟨lc, hlc2⟩ : ∃ lc, lessC xs k = lc := ⟨_, rfl⟩
              rw [hlc2] at hcl hnb ⊢
              obtain ⟨N, hN⟩ : ∃ N : Nat, xs.length - 1 - k = N := ⟨_, rfl⟩
              rw [hN] at hnb
              have hN20 : N ≤ 20 := by omega
              obtain ⟨f0, hf0⟩ : ∃ f0, fact N = f0 := ⟨_, rfl⟩
              have hfb := fact_le20 hN20
              rw [hf0] at hnb hfb
              have HF := Lib.hid (show rdS xs (k + 1) = r0 + lc * f0 by rw [HNEXT.out, hlc2, hN, hf0])
              have hNI : ((xs.length : Int) - 1 - k) = (N : Int) := by omega
              have FC := factorial_any N
              rw [hf0] at FC
              have HFC := Lib.hid FC
              have hmx : lc * f0 < 2432902008176640000 := by omega
              have hq0 : IntKind.u64.wrap ((lc : Nat) : Int) = lc := IntWalk.u64_in _ (by omega)
              have hq1 : IntKind.u64.wrap ((lc : Int) * (f0 : Int)) = ((lc * f0 : Nat) : Int) := by
                rw [← Int.natCast_mul]
                exact IntWalk.u64_in _ (by omega)
              have hq2 : IntKind.u64.wrap ((r0 : Int) + ((lc * f0 : Nat) : Int)) = ((r0 + lc * f0 : Nat) : Int) := by
                rw [← Int.natCast_add]
                exact IntWalk.u64_in _ (by omega)
              have hq3 : IntKind.i64.wrap ((xs.length : Int) - 1) = (xs.length : Int) - 1 := IntWalk.i64_in _ (by omega)
              have hq4 : IntKind.i64.wrap ((xs.length : Int) - 1 - k) = (N : Int) := by rw [IntWalk.i64_in _ (by omega)]; exact hNI
              clear hlc hlc2 hsv hcl hf0 hN FC
              go_upto_region 16 with fail
              refine wp_read 8 ?_
              simp only [List.take_succ_cons, List.take_zero, List.drop_succ_cons, List.drop_zero]
              repeat (any_goals (first | go_big_quiet_step (fail) | quiet_step (fail)))
              refine wpQuiet_nil ?_
              refine wpList_plain rfl fun K hK => ?_
              go_simp
              refine (HFC.out _ hN20).mono ?_
              rintro e w1 ⟨rfl, rfl⟩
              refine hK _ _ ?_
              clear hK K
              refine wpList_read 3 ?_
              simp only [List.take_succ_cons, List.take_zero, List.drop_succ_cons, List.drop_zero]
              repeat (any_goals (first | go_big_quiet_step (fail) | quiet_step (fail)))
              refine wpQuiet_nil ?_
              clear hq0 hq1 hq2 hq3 hq4
              go_wp2
              go_roundw
              case rel => exact ⟨k + 1, by omega, by go_num, by rw [HF.out]; simp, HSV.out⟩
              case measure => simp [intOf]; omega
        · obtain rfl : k = xs.length := by omega
          go_wp2
          go_ret2
          exact ⟨rfl, hs⟩
end Go.Proofs.Ytibjpclmiaimaaa
