/- Permutations: Check and both of the program; place, DocCheck and worse of the reference. -/
import Derived.Test.YtbckhmpkgokbeaaProg
import Derived.Test.YtbckhmpkgokbeaaPermPure2
import Derived.Test.YtbckhmpkgokbeaaPh
import Derived.KernelRfl
namespace Go.Proofs.Ytbckhmpkgokbeaa
open Go.RowKit Go.Tk

theorem info_bool : (Try.prog.info? 4).map (fun i => (i.zero, i.size, i.bytes)) = some (some (.bool false), 1, 1) := by kernel_rfl
theorem info_int : (Try.prog.info? 3).map (fun i => (i.zero, i.size, i.bytes)) = some (some (.int .i64 0), 1, 8) := by kernel_rfl

/-- which numbers stand among the first k -/
def seenL (xs : List Int) (k n : Nat) : List Bool := (List.range n).map fun j : Nat => decide ((j : Int) ∈ xs.take k)
theorem seenL_len (xs : List Int) (k n : Nat) : (seenL xs k n).length = n := by simp [seenL]
theorem seenL_get (xs : List Int) (k : Nat) {n j : Nat} (h : j < n) : (seenL xs k n)[j]? = some (decide ((j : Int) ∈ xs.take k)) := by simp [seenL, h]
theorem seenL_zero (xs : List Int) (n : Nat) : seenL xs 0 n = List.replicate n false := by
  apply List.ext_getElem?
  intro j
  rcases Nat.lt_or_ge j n with h | h
  · rw [seenL_get xs 0 h]; simp [h]
  · rw [List.getElem?_eq_none (by rw [seenL_len]; exact h), List.getElem?_eq_none (by simpa using h)]
theorem take_snoc {α : Type} {xs : List α} {k : Nat} {x : α} (h : xs[k]? = some x) : xs.take (k + 1) = xs.take k ++ [x] := by
  have hl := lt_of_get h
  rw [List.getElem?_eq_getElem hl] at h
  injection h with h
  rw [List.take_succ_eq_append_getElem hl, h]
theorem seenL_set {xs : List Int} {k n : Nat} {x : Nat} (h : xs[k]? = some (x : Int)) (hx : x < n) : (seenL xs k n).set x true = seenL xs (k + 1) n := by
  apply List.ext_getElem?
  intro j
  rcases Nat.lt_or_ge j n with hj | hj
  · rw [seenL_get xs (k + 1) hj, List.getElem?_set, seenL_len, seenL_get xs k hj, take_snoc h]
    split
    · rename_i he; subst he; simp
    · rename_i hne
      congr 1
      have : ¬ ((j : Int) = (x : Int)) := by omega
      simp [this]
  · rw [List.getElem?_eq_none (by simp [seenL_len, hj]), List.getElem?_eq_none (by rw [seenL_len]; exact hj)]
/-- the first k things are in order -/
def Good (xs : List Int) (k : Nat) : Prop := (∀ x, x ∈ xs.take k → 0 ≤ x ∧ x < xs.length) ∧ (xs.take k).Nodup
theorem Good.next {xs : List Int} {k : Nat} {x : Int} (h : Good xs k) (hx : xs[k]? = some x) (h0 : 0 ≤ x) (h1 : x < xs.length) (hn : x ∉ xs.take k) : Good xs (k + 1) := by
  unfold Good
  rw [take_snoc hx]
  refine ⟨fun y hy => ?_, ?_⟩
  · rcases List.mem_append.1 hy with hy | hy
    · exact h.1 y hy
    · simp at hy; subst hy; exact ⟨h0, h1⟩
  · rw [List.nodup_append]
    exact ⟨h.2, by simp, fun a ha b hb => by simp at hb; subst hb; rintro rfl; exact hn ha⟩
theorem not_perm_range {xs : List Int} {k : Nat} {x : Int} (hx : xs[k]? = some x) (h : x < 0 ∨ (xs.length : Int) ≤ x) : chk xs = 4 := by
  unfold chk
  rw [if_neg]
  rintro ⟨h1, _⟩
  have := h1 x (List.mem_of_getElem? hx)
  omega
theorem not_perm_dup {xs : List Int} {k : Nat} {x : Int} (hx : xs[k]? = some x) (h : x ∈ xs.take k) : chk xs = 4 := by
  unfold chk
  rw [if_neg]
  rintro ⟨_, h2⟩
  have h3 : (xs.take (k + 1)).Nodup := h2.sublist (List.take_sublist _ _)
  rw [take_snoc hx, List.nodup_append] at h3
  exact h3.2.2 x h x (by simp) rfl
theorem good_all {xs : List Int} (h : Good xs xs.length) : IsPerm xs := by
  unfold Good at h
  rw [List.take_length] at h
  exact h

set_option maxHeartbeats 1000000 in
theorem check_any (A : Option Addr) (n C : Nat) (xs : List Int) (w : World) (h : IL w A n xs) (hr : n * 8 ≤ 140737488351232) :
    Calls Try.prog 19 #[.slice A n C] w fun e w' => e = .returned (.int .i64 (chk xs)) ∧ Same w w' := by
  obtain rfl := h.len
  have hmk := fun w => run_make_n (P := Try.prog) Try.underlying47 info_bool .i64 .i64 xs.length (show 1 * xs.length ≤ 281474976710656 by omega) (show xs.length ≤ 9223372036854775807 by omega) w
  have hs1 : ∀ cs, Same w (w.alloc (.cells cs 4)) := fun cs => (Frm.refl _ _).alloc _
  have hO := Own.ofMade (m := 1) w 4 (fun b : Bool => [.bool b]) (fun _ => rfl) (by decide) false xs.length (show xs.length ≤ 9223372036854775807 by omega) rfl
  rw [← seenL_zero xs] at hO
  have H := Lib.hid h
  have HO := Lib.hid hO
  clear h hO
  go_enter Try.func19, Try.ntmps19
  go_wp2
  go_loopw [11] (fun i wr => ∃ k : Nat, k ≤ xs.length ∧ i = .int .i64 k ∧ Good xs k ∧ Same w wr ∧ Row1 wr 4 (fun b : Bool => .bool b) (some ⟨w.heap.size, 0, none⟩) xs.length xs.length (seenL xs k xs.length)) (fun i _ => xs.length - (intOf i).toNat)
  case atStart => exact ⟨0, by omega, rfl, ⟨by simp, by simp⟩, hs1 _, by simpa using HO.out⟩
  case round =>
    obtain ⟨k, hk, rfl, hg, hs, ho⟩ := hrel
    clear hmk hs1 HO
    by_cases hlt : k < xs.length
    · obtain ⟨x, hx⟩ : ∃ x, xs[k]? = some x := ⟨_, List.getElem?_eq_getElem hlt⟩
      obtain ⟨b, off, rfl, hb, hc⟩ := (H.out.same hs).at1 hx
      have hi0 : (0 : Int) ≤ k := by omega
      have hi1 : (k : Int) < xs.length := by omega
      have HG := Lib.hid hg
      have HX := Lib.hid hx
      have HS := Lib.hid hs
      have HR := Lib.hid ho
      clear hg hx hs ho
      by_cases h0 : x < 0
      · go_wp2
        go_ret
        exact ⟨ret_int (not_perm_range HX.out (.inl h0)).symm, HS.out⟩
      · by_cases h1 : x ≥ xs.length
        · go_wp2
          go_ret
          exact ⟨ret_int (not_perm_range HX.out (.inr h1)).symm, HS.out⟩
        · obtain ⟨y, rfl⟩ := Int.eq_ofNat_of_zero_le (show 0 ≤ x by omega)
          have hyl : y < xs.length := by omega
          have hg := seenL_get xs k hyl
          obtain ⟨sb, hsb, hsl, hsc⟩ := HR.out.at1 hg
          injection hsb with hsb
          injection hsb with hsb
          subst hsb
          have hfr := Own.free HR.out y
          clear hg
          by_cases hd : (y : Int) ∈ xs.take k
          · have hd' : decide ((y : Int) ∈ xs.take k) = true := by simpa using hd
            rw [hd'] at hsc
            have HD := Lib.hid hd
            clear hd hd'
            go_wp2
            go_ret
            exact ⟨ret_int (not_perm_dup HX.out HD.out).symm, HS.out⟩
          · have hd' : decide ((y : Int) ∈ xs.take k) = false := by simpa using hd
            rw [hd'] at hsc
            have HD := Lib.hid hd
            clear hd hd'
            have hst := Own.put1 HR.out (i := y) (by rw [seenL_len]; exact hyl) true
            rw [seenL_set HX.out hyl] at hst
            have HST := Lib.hid hst
            clear hst
            go_wp2
            go_roundw
            case rel => exact ⟨k + 1, by omega, by go_num, HG.out.next HX.out (by omega) (by omega) HD.out, HS.out.setNew _ _ (Nat.le_refl _), HST.out⟩
            case measure => simp [intOf]; omega
    · obtain rfl : k = xs.length := by omega
      have HG := Lib.hid (good_all hg)
      clear hg ho
      by_cases h64 : 64 < xs.length
      · have h64' : (xs.length : Int) > 64 := by omega
        go_wp2
        go_ret
        exact ⟨ret_int (by unfold chk; rw [if_pos HG.out, if_pos h64]), hs⟩
      · have h64' : ¬ (xs.length : Int) > 64 := by omega
        go_wp2
        go_ret
        exact ⟨ret_int (by unfold chk; rw [if_pos HG.out, if_neg h64]), hs⟩
set_option maxHeartbeats 1000000 in
theorem both_any (A B : Option Addr) (n m C D : Nat) (xs ys : List Int) (w : World) (h : IL w A n xs) (h2 : IL w B m ys) (hr : n * 8 ≤ 140737488351232) (hr2 : m * 8 ≤ 140737488351232) :
    Calls Try.prog 21 #[.slice A n C, .slice B m D] w fun e w' => e = .returned (.int .i64 (both xs ys)) ∧ Same w w' := by
  obtain rfl := h.len
  obtain rfl := h2.len
  have H := Lib.hid h
  have H2 := Lib.hid h2
  clear h h2
  obtain ⟨r, hrr⟩ : ∃ r, both xs ys = r := ⟨_, rfl⟩
  rw [hrr]
  have HR := Lib.hid hrr
  clear hrr
  go_enter Try.func21, Try.ntmps21
  go_wp2_with (fail)
  refine (check_any A _ C xs w H.out hr).mono ?_
  rintro e w1 ⟨rfl, hs1⟩
  go_wp2_with (fail)
  refine (check_any B _ D ys w1 (H2.out.same hs1) hr2).mono ?_
  rintro e w2 ⟨rfl, hs2⟩
  have hs := hs1.trans hs2 (fun _ _ h => h)
  have hcx := chk_cases xs
  have hcy := chk_cases ys
  obtain ⟨cx, hx⟩ : ∃ c, chk xs = c := ⟨_, rfl⟩
  obtain ⟨cy, hy⟩ : ∃ c, chk ys = c := ⟨_, rfl⟩
  rw [hx] at hcx ⊢
  rw [hy] at hcy ⊢
  have HX := Lib.hid hx
  have HY := Lib.hid hy
  clear hx hy hs1 hs2
  by_cases h1 : cx = 4
  · subst h1
    go_wp2
    go_ret
    exact ⟨ret_int (by rw [← HR.out]; unfold both; rw [HX.out, if_pos (.inl rfl)]), hs⟩
  · have h1' : (cx == 4) = false := by simpa using h1
    by_cases h2 : cy = 4
    · subst h2
      clear hcx hcy
      go_wp2
      go_ret
      exact ⟨ret_int (by rw [← HR.out]; unfold both; rw [HY.out, if_pos (.inr (.inl rfl))]), hs⟩
    · have h2' : (cy == 4) = false := by simpa using h2
      by_cases h3 : xs.length = ys.length
      · have h3' : ((xs.length : Int) != (ys.length : Int)) = false := by simp [h3]
        have hb : both xs ys = max cx cy := by unfold both; rw [HX.out, HY.out, if_neg (by simp [h1, h2, h3])]
        have HB := Lib.hid hb
        clear hb h1 h2 h3
        rcases hcx with rfl | rfl | rfl <;> rcases hcy with rfl | rfl | rfl
        all_goals first | (cases h1'; done) | (cases h2'; done) | skip
        all_goals
          clear h1' h2'
          go_wp2
          go_ret
          exact ⟨ret_int (by rw [← HR.out, HB.out]; decide), hs⟩
      · have h3' : ((xs.length : Int) != (ys.length : Int)) = true := by simp; omega
        have hb : both xs ys = 4 := by unfold both; rw [if_pos (.inr (.inr h3))]
        have HB := Lib.hid hb
        clear hb h1 h2 h3 hcx hcy
        go_wp2
        go_ret
        exact ⟨ret_int (by rw [← HR.out, HB.out]), hs⟩
end Go.Proofs.Ytbckhmpkgokbeaa
