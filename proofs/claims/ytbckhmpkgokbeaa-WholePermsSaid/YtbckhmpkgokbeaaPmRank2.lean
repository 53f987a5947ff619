/- Permutations: Rank of the program. -/
import Derived.Test.YtbckhmpkgokbeaaPmRank
namespace Go.Tk
theorem IL.drop {w : World} {A : Option Addr} {n C : Nat} {xs : List Int} {b off k : Nat} (h : IL w (some ⟨b, off, none⟩) n xs) (hA : A = if C = k then some ⟨b, off, none⟩ else some ⟨b, off + k, none⟩) (hC : n ≤ C) : IL w A (n - k) (xs.drop k) := by
  obtain rfl := h.len
  refine ⟨by rw [List.length_drop], fun i x hi => ?_⟩
  rw [List.getElem?_drop] at hi
  have hl := lt_of_get hi
  obtain ⟨b', off', h1, h2, h3⟩ := h.get (k + i) x hi
  injection h1 with h1
  injection h1 with h1 h4
  subst h1 h4
  rw [if_neg (by omega)] at hA
  refine ⟨b, off + k, hA, h2, fun j hj => ?_⟩
  have := h3 j hj
  rwa [show off + k + i * 1 + j = off + (k + i) * 1 + j by omega]
end Go.Tk
namespace Go.Proofs.Ytbckhmpkgokbeaa
open Go.RowKit Go.Tk

set_option maxHeartbeats 2000000 in
theorem rank_any (A : Option Addr) (n C : Nat) (xs : List Int) (w : World) (h : IL w A n xs) (hr : n * 8 ≤ 140737488351232) (hC : n ≤ C) :
    Calls Try.prog 7 #[.slice A n C] w fun e w' => e = .returned (.tuple #[.int .u64 (rkV xs), .int .i64 (rkE xs)]) ∧ Same w w' := by
  obtain rfl := h.len
  obtain ⟨c, hcc⟩ : ∃ c, chk xs = c := ⟨_, rfl⟩
  have HCC := Lib.hid hcc
  have H := Lib.hid h
  by_cases hc : c = 4
  · have hy : rkE xs = 4 := by unfold rkE; rw [hcc, if_pos hc]
    have hv : rkV xs = 0 := by unfold rkV; rw [hy, if_neg (by decide)]
    rw [hy, hv]
    subst hc
    clear h hcc hy hv
    go_enter Try.func7, Try.ntmps7
    go_wp2_with (fail)
    refine (check_any A _ C xs w H.out hr).mono ?_
    rintro e w1 ⟨rfl, hs1⟩
    rw [HCC.out]
    go_wp2
    go_ret2
    exact ⟨rfl, hs1⟩
  · have hc' : (c == 4) = false := by simpa using hc
    by_cases h20 : 20 < xs.length
    · have hy : rkE xs = 6 := by unfold rkE; rw [hcc, if_neg hc, if_pos h20]
      have hv : rkV xs = 0 := by unfold rkV; rw [hy, if_neg (by decide)]
      rw [hy, hv]
      have h20' : (xs.length : Int) > 20 := by omega
      clear h hcc hy hv hc
      go_enter Try.func7, Try.ntmps7
      go_wp2_with (fail)
      refine (check_any A _ C xs w H.out hr).mono ?_
      rintro e w1 ⟨rfl, hs1⟩
      rw [HCC.out]
      go_wp2
      go_ret2
      exact ⟨rfl, hs1⟩
    · have hy : rkE xs = 0 := by unfold rkE; rw [hcc, if_neg hc, if_neg h20]
      have hv : rkV xs = rkS xs xs.length := by unfold rkV; rw [hy, if_pos rfl]
      rw [hy, hv]
      have h20' : ¬ (xs.length : Int) > 20 := by omega
      have h20n : xs.length ≤ 20 := by omega
      clear h hcc hy hv hc
      go_enter Try.func7, Try.ntmps7
      go_wp2_with (fail)
      refine (check_any A _ C xs w H.out hr).mono ?_
      rintro e w1 ⟨rfl, hs1⟩
      rw [HCC.out]
      go_wp2
      go_loopw [5, 21] (fun s i wr => ∃ k : Nat, k ≤ xs.length ∧ i = .int .i64 k ∧ s = .int .u64 (rkS xs k : Nat) ∧ Same w wr) (fun _ i _ => xs.length - (intOf i).toNat)
      case atStart => exact ⟨0, by omega, rfl, rfl, hs1⟩
      case round =>
        clear hs1
        obtain ⟨k, hk, rfl, rfl, hs⟩ := hrel
        by_cases hlt : k < xs.length
        · obtain ⟨x, hx⟩ : ∃ x, xs[k]? = some x := ⟨_, List.getElem?_eq_getElem hlt⟩
          obtain ⟨b, off, rfl, hb, hcx⟩ := (Sl.same H.out hs).at1 hx
          have hi0 : (0 : Int) ≤ k := by omega
          have hi1 : (k : Int) < xs.length := by omega
          have hi2 : (k : Int) + 1 ≤ xs.length := by omega
          have hi3 : (0 : Int) ≤ (k : Int) + 1 := by omega
          have hi4 : ((k : Int) + 1).toNat = k + 1 := by omega
          have hi5 : IntKind.i64.wrap ((k : Int) + 1) = k + 1 := IntWalk.i64_in _ (by omega)
          have hx' : xs.getD k 0 = x := by simp [List.getD_eq_getElem?_getD, hx]
          obtain ⟨r0, hr0⟩ : ∃ r0, rkS xs k = r0 := ⟨_, rfl⟩
          have hb0 := rkS_lt xs k hk
          have hb1 := dsc_le h20n hk
          rw [hr0] at hb0 ⊢
          have hb2 : r0 < 2432902008176640000 := by omega
          have hnext : rkS xs (k + 1) = r0 * (xs.length - k) + lessC xs k := by rw [rkS, hr0]
          have hnb := rkS_lt xs (k + 1) (by omega)
          have hnb2 := dsc_le (k := k + 1) h20n (by omega)
          have hnb3 : r0 * (xs.length - k) + lessC xs k < 2432902008176640000 := by omega
          have HS := Lib.hid hs
          have HX := Lib.hid hx
          have HX' := Lib.hid hx'
          have HNEXT := Lib.hid hnext
          clear hs hx hx' hr0 hb0 hb1 hnext hnb hnb2
          go_upto_region 11 with fail
          refine wp_read 6 ?_
          simp only [List.take_succ_cons, List.take_zero, List.drop_succ_cons, List.drop_zero]
          repeat (any_goals (first | go_big_quiet_step (fail) | quiet_step (fail)))
          refine wpQuiet_nil ?_
          generalize hA' : (if C = k + 1 then some (⟨b, off, none⟩ : Addr) else some ⟨b, off + (k + 1), none⟩) = A'
          obtain ⟨L, hL⟩ : ∃ L, xs.length - (k + 1) = L := ⟨_, rfl⟩
          have hIL := IL.drop (k := k + 1) H.out hA'.symm hC
          rw [hL] at hIL ⊢
          have hL2 : L + (k + 1) = xs.length := by omega
          have HIL := Lib.hid hIL
          have HL2 := Lib.hid hL2
          have hL3 : L ≤ 20 := by omega
          clear hA' hL hIL hL2 hcx
          go_wp2
          go_loopw [8, 31] (fun s j wv => ∃ m : Nat, m ≤ L ∧ j = .int .i64 m ∧ s = .int .i64 (((xs.drop (k + 1)).take m).countP (fun y => decide (y < x)) : Nat) ∧ Same w wv) (fun _ j _ => L - (intOf j).toNat)
          case atStart => exact ⟨0, by omega, rfl, by simp, HS.out⟩
          case round =>
            obtain ⟨m, hm, rfl, rfl, hsv⟩ := hrel
            have hcl := List.countP_le_length (p := fun y => decide (y < x)) (l := (xs.drop (k + 1)).take m)
            rw [List.length_take] at hcl
            have HSV := Lib.hid hsv
            by_cases hmk : m < L
            · obtain ⟨y, hy⟩ : ∃ y, (xs.drop (k + 1))[m]? = some y := ⟨_, List.getElem?_eq_getElem (by rw [← HIL.out.len]; exact hmk)⟩
              obtain ⟨b2, off2, rfl, hb2, hc2⟩ := (Sl.same HIL.out hsv).at1 hy
              have hj0 : (0 : Int) ≤ m := by omega
              have hj1 : (m : Int) < L := by omega
              have hnx := countP_snoc (fun y => decide (y < x)) ((xs.drop (k + 1)).take m) y
              rw [← take_snoc hy] at hnx
              obtain ⟨cm, hcm⟩ : ∃ cm, ((xs.drop (k + 1)).take m).countP (fun y => decide (y < x)) = cm := ⟨_, rfl⟩
              rw [hcm] at hnx hcl ⊢
              have HNX := Lib.hid hnx
              clear hnx hsv hy hcm
              by_cases hgt : y < x
              · have hd : decide (y < x) = true := by simpa using hgt
                have HD := Lib.hid hd
                clear hd
                go_wp2
                go_roundw
                case rel => exact ⟨m + 1, by omega, by go_num, by rw [HNX.out, HD.out]; go_num, HSV.out⟩
                case measure => simp [intOf]; omega
              · have hd : decide (y < x) = false := by simpa using hgt
                have HD := Lib.hid hd
                clear hd
                go_wp2
                go_roundw
                case rel => exact ⟨m + 1, by omega, by go_num, by rw [HNX.out, HD.out]; rfl, HSV.out⟩
                case measure => simp [intOf]; omega
            · obtain rfl : m = L := by omega
              have hlc : ((xs.drop (k + 1)).take m).countP (fun y => decide (y < x)) = lessC xs k := by
                unfold lessC
                rw [HX'.out, List.take_of_length_le (by rw [List.length_drop]; have := HL2.out; omega)]
              rw [hlc] at hcl ⊢
              obtain ⟨lc, hlc2⟩ : ∃ lc, lessC xs k = lc := ⟨_, rfl⟩
              rw [hlc2] at hcl hnb3 ⊢
              have HLC := Lib.hid hlc2
              have hq0 : IntKind.u64.wrap ((xs.length : Int) - k) = ((xs.length - k : Nat) : Int) := by rw [IntWalk.u64_in _ (by omega)]; omega
              have hq1 : IntKind.i64.wrap ((xs.length : Int) - k) = (xs.length : Int) - k := IntWalk.i64_in _ (by omega)
              have hq2 : IntKind.u64.wrap ((r0 : Int) * ((xs.length - k : Nat) : Int)) = ((r0 * (xs.length - k) : Nat) : Int) := by
                rw [← Int.natCast_mul]
                exact IntWalk.u64_in _ (by omega)
              have hq3 : IntKind.u64.wrap ((lc : Nat) : Int) = lc := IntWalk.u64_in _ (by omega)
              have hq4 : IntKind.u64.wrap (((r0 * (xs.length - k) : Nat) : Int) + (lc : Int)) = ((r0 * (xs.length - k) + lc : Nat) : Int) := by
                rw [← Int.natCast_add]
                exact IntWalk.u64_in _ (by omega)
              clear hlc hlc2 hsv hcl
              go_upto_region 17 with fail
              refine wp_read 10 ?_
              simp only [List.take_succ_cons, List.take_zero, List.drop_succ_cons, List.drop_zero]
              repeat (any_goals (first | go_big_quiet_step (fail) | quiet_step (fail)))
              refine wpQuiet_nil ?_
              clear hq0 hq1 hq2 hq3 hq4
              go_wp2
              go_roundw
              case rel => exact ⟨k + 1, by omega, by go_num, by rw [HNEXT.out, HLC.out]; simp, HSV.out⟩
              case measure => simp [intOf]; omega
        · obtain rfl : k = xs.length := by omega
          go_wp2
          go_ret2
          exact ⟨rfl, hs⟩
end Go.Proofs.Ytbckhmpkgokbeaa
