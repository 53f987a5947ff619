/- Permutations: Identity, Inverse, Compose, Changes of both. -/
import Derived.Test.YtbckhmpkgokbeaaPmSwap
namespace Go.Proofs.Ytbckhmpkgokbeaa
open Go.RowKit Go.Tk

/-- f at the first k places, noughts behind them -/
def fillL (f : Nat → Int) (n k : Nat) : List Int := (List.range n).map fun j : Nat => if j < k then f j else 0
theorem fillL_len (f : Nat → Int) (n k : Nat) : (fillL f n k).length = n := by simp [fillL]
theorem fillL_zero (f : Nat → Int) (n : Nat) : fillL f n 0 = List.replicate n 0 := by
  apply List.ext_getElem?
  intro j
  rcases Nat.lt_or_ge j n with h | h
  · simp [fillL, h]
  · rw [List.getElem?_eq_none (by rw [fillL_len]; exact h), List.getElem?_eq_none (by simpa using h)]
theorem fillL_full (f : Nat → Int) {n : Nat} {ys : List Int} (hl : ys.length = n) (h : ∀ j, j < n → ys[j]? = some (f j)) : fillL f n n = ys := by
  apply List.ext_getElem?
  intro j
  rcases Nat.lt_or_ge j n with hj | hj
  · rw [h j hj]; simp [fillL, hj]
  · rw [List.getElem?_eq_none (by rw [fillL_len]; exact hj), List.getElem?_eq_none (by omega)]
theorem fillL_set (f : Nat → Int) {n k : Nat} : (fillL f n k).set k (f k) = fillL f n (k + 1) := by
  apply List.ext_getElem?
  intro j
  rcases Nat.lt_or_ge j n with hj | hj
  · rw [List.getElem?_set, fillL_len]
    simp only [fillL, List.getElem?_map, List.getElem?_range hj, Option.map_some]
    split
    · rename_i he; subst he; simp; omega
    · rename_i he
      congr 1
      by_cases h : j < k
      · rw [if_pos h, if_pos (by omega)]
      · rw [if_neg h, if_neg (by omega)]
  · rw [List.getElem?_eq_none (by simp [fillL_len, hj]), List.getElem?_eq_none (by rw [fillL_len]; exact hj)]
/-- the places of the first k things -/
def invP (p : List Int) (k : Nat) : List Int := (List.range p.length).map fun j : Nat => if (j : Int) ∈ p.take k then plc p j else 0
theorem invP_len (p : List Int) (k : Nat) : (invP p k).length = p.length := by simp [invP]
theorem invP_zero (p : List Int) : invP p 0 = List.replicate p.length 0 := by
  apply List.ext_getElem?
  intro j
  rcases Nat.lt_or_ge j p.length with h | h
  · simp [invP, h]
  · rw [List.getElem?_eq_none (by rw [invP_len]; exact h), List.getElem?_eq_none (by simpa using h)]
theorem invL_get (p : List Int) {j : Nat} (h : j < p.length) : (invL p)[j]? = some (plc p j) := by simp [invL, rng_get h]
theorem invP_full {p : List Int} (h : IsPerm p) : invP p p.length = invL p := by
  apply List.ext_getElem?
  intro j
  rcases Nat.lt_or_ge j p.length with hj | hj
  · rw [invL_get p hj]
    simp [invP, hj, h.mem hj]
  · rw [List.getElem?_eq_none (by rw [invP_len]; exact hj), List.getElem?_eq_none (by rw [invL_len]; exact hj)]
theorem invP_set {p : List Int} (hn : p.Nodup) {k x : Nat} (h : p[k]? = some (x : Int)) : (invP p k).set x (k : Int) = invP p (k + 1) := by
  apply List.ext_getElem?
  intro j
  rcases Nat.lt_or_ge j p.length with hj | hj
  · rw [List.getElem?_set, invP_len]
    simp only [invP, List.getElem?_map, List.getElem?_range hj, Option.map_some, take_snoc h, List.mem_append, List.mem_singleton]
    split
    · rename_i he; subst he; simp [plc_get hn h]; omega
    · rename_i he
      have : ¬ ((j : Int) = (x : Int)) := by omega
      simp [this]
  · rw [List.getElem?_eq_none (by simp [invP_len, hj]), List.getElem?_eq_none (by rw [invP_len]; exact hj)]

def inE (p : List Int) : Int := chk p
def inL (p : List Int) : List Int := if chk p = 0 then invL p else []
set_option maxHeartbeats 1000000 in
theorem inverse_any (A : Option Addr) (n C : Nat) (xs : List Int) (w : World) (h : IL w A n xs) (hr : n * 8 ≤ 140737488351232) :
    Calls Try.prog 13 #[.slice A n C] w (RetE w (inL xs) (chk xs)) := by
  obtain rfl := h.len
  obtain ⟨c, hcc⟩ : ∃ c, chk xs = c := ⟨_, rfl⟩
  have HC := Lib.hid hcc
  have H := Lib.hid h
  by_cases hc : c = 0
  · have hy : inL xs = invL xs := by unfold inL; rw [hcc, if_pos hc]
    rw [hy, hcc]
    subst hc
    have hp := (chk_ok.1 hcc).1
    have hmk := fun w => run_make_n (P := Try.prog) Try.underlying22 info_int .i64 .i64 xs.length (show 8 * xs.length ≤ 281474976710656 by omega) (show xs.length ≤ 9223372036854775807 by omega) w
    have HP := Lib.hid hp
    clear h hcc hp hy
    go_enter Try.func13, Try.ntmps13
    go_wp2_with (fail)
    refine (check_any A _ C xs w H.out hr).mono ?_
    rintro e w1 ⟨rfl, hs1⟩
    rw [HC.out]
    have hO := Own.ofMade (m := 1) w1 3 icell (fun _ => rfl) (by decide) 0 xs.length (show xs.length ≤ 9223372036854775807 by omega) rfl
    rw [← invP_zero xs] at hO
    have hs2 : ∀ cs, Same w (w1.alloc (.cells cs 3)) := fun cs => hs1.alloc _
    have hz1 := hs1.size
    have HO := Lib.hid hO
    have HS2 := Lib.hid hs2
    have H1 := Lib.hid (Sl.same H.out hs1)
    clear hO hs1 hs2
    go_wp2
    generalize w1.heap.size = g at *
    go_loopw [18] (fun i wr => ∃ k : Nat, k ≤ xs.length ∧ i = .int .i64 k ∧ Same w wr ∧ OwnI wr 3 (some ⟨g, 0, none⟩) xs.length xs.length (invP xs k)) (fun i _ => xs.length - (intOf i).toNat)
    case atStart => exact ⟨0, by omega, rfl, HS2.out _, by simpa [icell] using HO.out⟩
    case round =>
      clear hmk HS2 HO H1
      obtain ⟨k, hk, rfl, hs, ho⟩ := hrel
      have HS := Lib.hid hs
      have HR := Lib.hid ho
      by_cases hlt : k < xs.length
      · have hi1 : (k : Int) < xs.length := by omega
        have hi0 : (0 : Int) ≤ k := by omega
        obtain ⟨x, hx⟩ : ∃ x, xs[k]? = some x := ⟨_, List.getElem?_eq_getElem hlt⟩
        have hxr := HP.out.1 x (List.mem_of_getElem? hx)
        obtain ⟨y, rfl⟩ := Int.eq_ofNat_of_zero_le hxr.1
        have hyl : y < xs.length := by omega
        obtain ⟨b, off, rfl, hb, hc⟩ := (Sl.same H.out hs).at1 hx
        obtain ⟨sb, hsb, hsl, hsc⟩ := HR.out.at1 (c := fun x => .int .i64 x) (i := y) (x := (invP xs k)[y]'(by rw [invP_len]; exact hyl)) (List.getElem?_eq_getElem _)
        injection hsb with hsb
        injection hsb with hsb
        subst hsb
        have hfr := Own.free HR.out y
        have hst := Own.put1 (c := fun x => .int .i64 x) HR.out (i := y) (by rw [invP_len]; exact hyl) (k : Int)
        rw [invP_set HP.out.2 hx] at hst
        generalize (invP xs k)[y]'(by rw [invP_len]; exact hyl) = old at hsc
        have HST := Lib.hid hst
        have hi2 : (y : Int) < xs.length := by omega
        clear hst hs ho hx hxr
        go_wp2
        go_roundw
        case rel => exact ⟨k + 1, by omega, by go_num, HS.out.setNew _ _ hz1, HST.out⟩
        case measure => simp [intOf]; omega
      · obtain rfl : k = xs.length := by omega
        clear hs ho
        go_wp2
        go_ret2
        refine ⟨some ⟨g, 0, none⟩, xs.length, by rw [invL_len]; rfl, ?_, fresh_some hz1, HS.out⟩
        have := HR.out
        rw [invP_full HP.out] at this
        rwa [invL_len]
  · have hy : inL xs = [] := by unfold inL; rw [hcc, if_neg hc]
    rw [hy, hcc]
    have hc' : (c != 0) = true := by simpa using hc
    clear h hcc hc hy
    go_enter Try.func13, Try.ntmps13
    go_wp2_with (fail)
    refine (check_any A _ C xs w H.out hr).mono ?_
    rintro e w1 ⟨rfl, hs1⟩
    rw [HC.out]
    go_wp2
    go_ret2
    exact ⟨none, 0, rfl, NewL.nil' hs1⟩

end Go.Proofs.Ytbckhmpkgokbeaa
