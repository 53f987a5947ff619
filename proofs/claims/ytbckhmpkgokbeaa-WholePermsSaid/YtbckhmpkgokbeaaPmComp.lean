/- Permutations: Compose, Identity, Changes of both. -/
import Derived.Test.YtbckhmpkgokbeaaPmInv
namespace Go.Proofs.Ytbckhmpkgokbeaa
open Go.RowKit Go.Tk

theorem compL_len (p q : List Int) : (compL p q).length = q.length := by simp [compL]
theorem compL_get (p q : List Int) {j : Nat} {x : Int} (h : q[j]? = some x) : (compL p q)[j]? = some (p.getD x.toNat 0) := by simp [compL, h]
def coL (p q : List Int) : List Int := if both p q = 0 then compL p q else []
set_option maxHeartbeats 1000000 in
theorem compose_any (A B : Option Addr) (n m C D : Nat) (xs ys : List Int) (w : World) (h : IL w A n xs) (h2 : IL w B m ys) (hr : n * 8 ≤ 140737488351232) (hr2 : m * 8 ≤ 140737488351232) :
    Calls Try.prog 14 #[.slice A n C, .slice B m D] w (RetE w (coL xs ys) (both xs ys)) := by
  obtain rfl := h.len
  obtain rfl := h2.len
  obtain ⟨c, hcc⟩ : ∃ c, both xs ys = c := ⟨_, rfl⟩
  have HC := Lib.hid hcc
  have H := Lib.hid h
  have H2 := Lib.hid h2
  by_cases hc : c = 0
  · have hy : coL xs ys = compL xs ys := by unfold coL; rw [hcc, if_pos hc]
    rw [hy, hcc]
    subst hc
    obtain ⟨hp, hq, hlen, h64⟩ := both_ok hcc
    have hl1 : xs.length ≤ ys.length := by omega
    have hl2 : ys.length ≤ xs.length := by omega
    have hmk := fun w => run_make_n (P := Try.prog) Try.underlying22 info_int .i64 .i64 xs.length (show 8 * xs.length ≤ 281474976710656 by omega) (show xs.length ≤ 9223372036854775807 by omega) w
    have HP := Lib.hid hp
    have HQ := Lib.hid hq
    have HLEN := Lib.hid hlen
    clear h h2 hcc hp hq hy hlen
    go_enter Try.func14, Try.ntmps14
    go_wp2_with (fail)
    refine (both_any A B _ _ C D xs ys w H.out H2.out hr hr2).mono ?_
    rintro e w1 ⟨rfl, hs1⟩
    rw [HC.out]
    have hO := Own.ofMade (m := 1) w1 3 icell (fun _ => rfl) (by decide) 0 xs.length (show xs.length ≤ 9223372036854775807 by omega) rfl
    rw [← fillL_zero (fun j => xs.getD (ys.getD j 0).toNat 0)] at hO
    have hs2 : ∀ cs, Same w (w1.alloc (.cells cs 3)) := fun cs => hs1.alloc _
    have hz1 := hs1.size
    have HO := Lib.hid hO
    have HS2 := Lib.hid hs2
    have H1 := Lib.hid (Sl.same H2.out hs1)
    clear hO hs1 hs2
    go_wp2
    generalize w1.heap.size = g at *
    go_loopw [21] (fun i wr => ∃ k : Nat, k ≤ ys.length ∧ i = .int .i64 k ∧ Same w wr ∧ OwnI wr 3 (some ⟨g, 0, none⟩) xs.length xs.length (fillL (fun j => xs.getD (ys.getD j 0).toNat 0) xs.length k)) (fun i _ => ys.length - (intOf i).toNat)
    case atStart => exact ⟨0, by omega, rfl, HS2.out _, by simpa [icell] using HO.out⟩
    case round =>
      clear hmk HS2 HO H1
      obtain ⟨k, hk, rfl, hs, ho⟩ := hrel
      have HS := Lib.hid hs
      have HR := Lib.hid ho
      by_cases hlt : k < ys.length
      · have hi1 : (k : Int) < ys.length := by omega
        have hi0 : (0 : Int) ≤ k := by omega
        have hi2 : (k : Int) < xs.length := by omega
        have hkx : k < xs.length := by omega
        obtain ⟨x, hx⟩ : ∃ x, ys[k]? = some x := ⟨_, List.getElem?_eq_getElem hlt⟩
        have hxr := HQ.out.1 x (List.mem_of_getElem? hx)
        obtain ⟨y, rfl⟩ := Int.eq_ofNat_of_zero_le hxr.1
        have hyl : y < xs.length := by omega
        obtain ⟨z, hz⟩ : ∃ z, xs[y]? = some z := ⟨_, List.getElem?_eq_getElem hyl⟩
        obtain ⟨b, off, rfl, hb, hc⟩ := (Sl.same H2.out hs).at1 hx
        obtain ⟨b2, off2, rfl, hb2, hc2⟩ := (Sl.same H.out hs).at1 hz
        obtain ⟨sb, hsb, hsl, hsc⟩ := HR.out.at1 (c := fun x => .int .i64 x) (i := k) (x := (fillL (fun j => xs.getD (ys.getD j 0).toNat 0) xs.length k)[k]'(by rw [fillL_len]; exact hkx)) (List.getElem?_eq_getElem _)
        injection hsb with hsb
        injection hsb with hsb
        subst hsb
        have hfr := Own.free HR.out k
        have hst := Own.put1 (c := fun x => .int .i64 x) HR.out (i := k) (by rw [fillL_len]; exact hkx) z
        rw [show z = (fun j => xs.getD (ys.getD j 0).toNat 0) k by simp [List.getD_eq_getElem?_getD, hx, hz], fillL_set] at hst
        rw [show (fun j => xs.getD (ys.getD j 0).toNat 0) k = z by simp [List.getD_eq_getElem?_getD, hx, hz]] at hst
        generalize (fillL (fun j => xs.getD (ys.getD j 0).toNat 0) xs.length k)[k]'(by rw [fillL_len]; exact hkx) = old at hsc
        have HST := Lib.hid hst
        have hi3 : (y : Int) < xs.length := by omega
        clear hst hs ho hx hxr hz
        go_wp2
        go_roundw
        case rel => exact ⟨k + 1, by omega, by go_num, HS.out.setNew _ _ hz1, HST.out⟩
        case measure => simp [intOf]; omega
      · obtain rfl : k = ys.length := by omega
        clear hs ho
        go_wp2
        go_ret2
        refine ⟨some ⟨g, 0, none⟩, xs.length, by rw [compL_len, ← HLEN.out]; rfl, ?_, fresh_some hz1, HS.out⟩
        have := HR.out
        rw [← HLEN.out, fillL_full (ys := compL xs ys) _ (by rw [compL_len, HLEN.out]) (fun j hj => by
          rw [HLEN.out] at hj
          rw [compL_get xs ys (List.getElem?_eq_getElem hj)]
          simp [List.getD_eq_getElem?_getD, hj])] at this
        rw [compL_len, ← HLEN.out]
        exact this
  · have hy : coL xs ys = [] := by unfold coL; rw [hcc, if_neg hc]
    rw [hy, hcc]
    have hc' : (c != 0) = true := by simpa using hc
    clear h h2 hcc hc hy
    go_enter Try.func14, Try.ntmps14
    go_wp2_with (fail)
    refine (both_any A B _ _ C D xs ys w H.out H2.out hr hr2).mono ?_
    rintro e w1 ⟨rfl, hs1⟩
    rw [HC.out]
    go_wp2
    go_ret2
    exact ⟨none, 0, rfl, NewL.nil' hs1⟩
end Go.Proofs.Ytbckhmpkgokbeaa
