/- Contracts and plain laws, put together in one file. No condition. -/
import Derived.Test.YtibjpclmiaimaaaJ1
import Derived.Test.YtibjpclmiaimaaaProg
import Derived.KernelRfl
import Derived.BigRegion


/- Permutations: Check and both of the program; place, DocCheck and worse of the reference. -/
namespace Go.Proofs.Ytibjpclmiaimaaa
open Go.RowKit Go.Tk

theorem info_bool : (Try.prog.info? 4).map (fun i => (i.zero, i.size, i.bytes)) = some (some (.bool false), 1, 1) := by kernel_rfl
theorem info_int : (Try.prog.info? 3).map (fun i => (i.zero, i.size, i.bytes)) = some (some (.int .i64 0), 1, 8) := by kernel_rfl

/-- which numbers stand among the first k -/
def seenL (xs : List Int) (k n : Nat) : List Bool := (List.range n).map fun j : Nat => decide ((j : Int) ∈ xs.take k)
theorem seenL_len (xs : List Int) (k n : Nat) : (seenL xs k n).length = n := by simp [seenL]
theorem seenL_get (xs : List Int) (k : Nat) {n j : Nat} (h : j < n) : (seenL xs k n)[j]? = some (decide ((j : Int) ∈ xs.take k)) := by simp [seenL, h]
theorem seenL_zero (xs : List Int) (n : Nat) : seenL xs 0 n = List.replicate n false := by
  apply List.ext_getElem?
  intro j
  rcases Nat.lt_or_ge j n with h | h
  · rw [seenL_get xs 0 h]; simp [h]
  · rw [List.getElem?_eq_none (by rw [seenL_len]; exact h), List.getElem?_eq_none (by simpa using h)]
theorem take_snoc {α : Type} {xs : List α} {k : Nat} {x : α} (h : xs[k]? = some x) : xs.take (k + 1) = xs.take k ++ [x] := by
  have hl := lt_of_get h
  rw [List.getElem?_eq_getElem hl] at h
  injection h with h
  rw [List.take_succ_eq_append_getElem hl, h]
theorem seenL_set {xs : List Int} {k n : Nat} {x : Nat} (h : xs[k]? = some (x : Int)) (hx : x < n) : (seenL xs k n).set x true = seenL xs (k + 1) n := by
  apply List.ext_getElem?
  intro j
  rcases Nat.lt_or_ge j n with hj | hj
  · rw [seenL_get xs (k + 1) hj, List.getElem?_set, seenL_len, seenL_get xs k hj, take_snoc h]
    split
    · rename_i he; subst he; simp
    · rename_i hne
      congr 1
      have : ¬ ((j : Int) = (x : Int)) := by omega
      simp [this]
  · rw [List.getElem?_eq_none (by simp [seenL_len, hj]), List.getElem?_eq_none (by rw [seenL_len]; exact hj)]
/-- the first k things are in order -/
def Good (xs : List Int) (k : Nat) : Prop := (∀ x, x ∈ xs.take k → 0 ≤ x ∧ x < xs.length) ∧ (xs.take k).Nodup
theorem Good.next {xs : List Int} {k : Nat} {x : Int} (h : Good xs k) (hx : xs[k]? = some x) (h0 : 0 ≤ x) (h1 : x < xs.length) (hn : x ∉ xs.take k) : Good xs (k + 1) := by
  unfold Good
  rw [take_snoc hx]
  refine ⟨fun y hy => ?_, ?_⟩
  · rcases List.mem_append.1 hy with hy | hy
    · exact h.1 y hy
    · simp at hy; subst hy; exact ⟨h0, h1⟩
  · rw [List.nodup_append]
    exact ⟨h.2, by simp, fun a ha b hb => by simp at hb; subst hb; rintro rfl; exact hn ha⟩
theorem not_perm_range {xs : List Int} {k : Nat} {x : Int} (hx : xs[k]? = some x) (h : x < 0 ∨ (xs.length : Int) ≤ x) : chk xs = 4 := by
  unfold chk
  rw [if_neg]
  rintro ⟨h1, _⟩
  have := h1 x (List.mem_of_getElem? hx)
  omega
theorem not_perm_dup {xs : List Int} {k : Nat} {x : Int} (hx : xs[k]? = some x) (h : x ∈ xs.take k) : chk xs = 4 := by
  unfold chk
  rw [if_neg]
  rintro ⟨_, h2⟩
  have h3 : (xs.take (k + 1)).Nodup := h2.sublist (List.take_sublist _ _)
  rw [take_snoc hx, List.nodup_append] at h3
  exact h3.2.2 x h x (by simp) rfl
theorem good_all {xs : List Int} (h : Good xs xs.length) : IsPerm xs := by
  unfold Good at h
  rw [List.take_length] at h
  exact h

set_option maxHeartbeats 1000000 in
theorem check_any (A : Option Addr) (n C : Nat) (xs : List Int) (w : World) (h : IL w A n xs) (hr : n * 8 ≤ 140737488351232) :
    Calls Try.prog 28 #[.slice A n C] w fun e w' => e = .returned (.int .i64 (chk xs)) ∧ Same w w' := by
  obtain rfl := h.len
  have hmk := fun w => run_make_n (P := Try.prog) Try.underlying32 info_bool .i64 .i64 xs.length (show 1 * xs.length ≤ 281474976710656 by omega) (show xs.length ≤ 9223372036854775807 by omega) w
  have hs1 : ∀ cs, Same w (w.alloc (.cells cs 4)) := fun cs => (Frm.refl _ _).alloc _
  have hO := Own.ofMade (m := 1) w 4 (fun b : Bool => [.bool b]) (fun _ => rfl) (by decide) false xs.length (show xs.length ≤ 9223372036854775807 by omega) rfl
  rw [← seenL_zero xs] at hO
  have H := Lib.hid h
  have HO := Lib.hid hO
  clear h hO
  go_enter Try.func28, Try.ntmps28
  go_wp2
  go_loopw [11] (fun i wr => ∃ k : Nat, k ≤ xs.length ∧ i = .int .i64 k ∧ Good xs k ∧ Same w wr ∧ Row1 wr 4 (fun b : Bool => .bool b) (some ⟨w.heap.size, 0, none⟩) xs.length xs.length (seenL xs k xs.length)) (fun i _ => xs.length - (intOf i).toNat)
  case atStart => exact ⟨0, by omega, rfl, ⟨by simp, by simp⟩, hs1 _, by simpa using HO.out⟩
  case round =>
    obtain ⟨k, hk, rfl, hg, hs, ho⟩ := hrel
    clear hmk hs1 HO
    by_cases hlt : k < xs.length
    · obtain ⟨x, hx⟩ : ∃ x, xs[k]? = some x := ⟨_, List.getElem?_eq_getElem hlt⟩
      obtain ⟨b, off, rfl, hb, hc⟩ := (H.out.same hs).at1 hx
      have hi0 : (0 : Int) ≤ k := by omega
      have hi1 : (k : Int) < xs.length := by omega
      have HG := Lib.hid hg
      have HX := Lib.hid hx
      have HS := Lib.hid hs
      have HR := Lib.hid ho
      clear hg hx hs ho
      by_cases h0 : x < 0
      · go_wp2
        go_ret
        exact ⟨ret_int (not_perm_range HX.out (.inl h0)).symm, HS.out⟩
      · by_cases h1 : x ≥ xs.length
        · go_wp2
          go_ret
          exact ⟨ret_int (not_perm_range HX.out (.inr h1)).symm, HS.out⟩
        · obtain ⟨y, rfl⟩ := Int.eq_ofNat_of_zero_le (show 0 ≤ x by omega)
          have hyl : y < xs.length := by omega
          have hg := seenL_get xs k hyl
          obtain ⟨sb, hsb, hsl, hsc⟩ := HR.out.at1 hg
          injection hsb with hsb
          injection hsb with hsb
          subst hsb
          have hfr := Own.free HR.out y
          clear hg
          by_cases hd : (y : Int) ∈ xs.take k
          · have hd' : decide ((y : Int) ∈ xs.take k) = true := by simpa using hd
            rw [hd'] at hsc
            have HD := Lib.hid hd
            clear hd hd'
            go_wp2
            go_ret
            exact ⟨ret_int (not_perm_dup HX.out HD.out).symm, HS.out⟩
          · have hd' : decide ((y : Int) ∈ xs.take k) = false := by simpa using hd
            rw [hd'] at hsc
            have HD := Lib.hid hd
            clear hd hd'
            have hst := Own.put1 HR.out (i := y) (by rw [seenL_len]; exact hyl) true
            rw [seenL_set HX.out hyl] at hst
            have HST := Lib.hid hst
            clear hst
            go_wp2
            go_roundw
            case rel => exact ⟨k + 1, by omega, by go_num, HG.out.next HX.out (by omega) (by omega) HD.out, HS.out.setNew _ _ (Nat.le_refl _), HST.out⟩
            case measure => simp [intOf] <;> omega
    · obtain rfl : k = xs.length := by omega
      have HG := Lib.hid (good_all hg)
      clear hg ho
      by_cases h64 : 64 < xs.length
      · have h64' : (xs.length : Int) > 64 := by omega
        go_wp2
        go_ret
        exact ⟨ret_int (by unfold chk; rw [if_pos HG.out, if_pos h64]), hs⟩
      · have h64' : ¬ (xs.length : Int) > 64 := by omega
        go_wp2
        go_ret
        exact ⟨ret_int (by unfold chk; rw [if_pos HG.out, if_neg h64]), hs⟩
set_option maxHeartbeats 1000000 in
theorem both_any (A B : Option Addr) (n m C D : Nat) (xs ys : List Int) (w : World) (h : IL w A n xs) (h2 : IL w B m ys) (hr : n * 8 ≤ 140737488351232) (hr2 : m * 8 ≤ 140737488351232) :
    Calls Try.prog 39 #[.slice A n C, .slice B m D] w fun e w' => e = .returned (.int .i64 (both xs ys)) ∧ Same w w' := by
  obtain rfl := h.len
  obtain rfl := h2.len
  have H := Lib.hid h
  have H2 := Lib.hid h2
  clear h h2
  obtain ⟨r, hrr⟩ : ∃ r, both xs ys = r := ⟨_, rfl⟩
  rw [hrr]
  have HR := Lib.hid hrr
  clear hrr
  go_enter Try.func39, Try.ntmps39
  go_wp2_with (fail)
  refine (check_any A _ C xs w H.out hr).mono ?_
  rintro e w1 ⟨rfl, hs1⟩
  go_wp2_with (fail)
  refine (check_any B _ D ys w1 (H2.out.same hs1) hr2).mono ?_
  rintro e w2 ⟨rfl, hs2⟩
  have hs := hs1.trans hs2 (fun _ _ h => h)
  have hcx := chk_cases xs
  have hcy := chk_cases ys
  obtain ⟨cx, hx⟩ : ∃ c, chk xs = c := ⟨_, rfl⟩
  obtain ⟨cy, hy⟩ : ∃ c, chk ys = c := ⟨_, rfl⟩
  rw [hx] at hcx ⊢
  rw [hy] at hcy ⊢
  have HX := Lib.hid hx
  have HY := Lib.hid hy
  clear hx hy hs1 hs2
  by_cases h1 : cx = 4
  · subst h1
    go_wp2
    go_ret
    exact ⟨ret_int (by rw [← HR.out]; unfold both; rw [HX.out, if_pos (.inl rfl)]), hs⟩
  · have h1' : (cx == 4) = false := by simpa using h1
    by_cases h2 : cy = 4
    · subst h2
      clear hcx hcy
      go_wp2
      go_ret
      exact ⟨ret_int (by rw [← HR.out]; unfold both; rw [HY.out, if_pos (.inr (.inl rfl))]), hs⟩
    · have h2' : (cy == 4) = false := by simpa using h2
      by_cases h3 : xs.length = ys.length
      · have h3' : ((xs.length : Int) != (ys.length : Int)) = false := by simp [h3]
        have hb : both xs ys = max cx cy := by unfold both; rw [HX.out, HY.out, if_neg (by simp [h1, h2, h3])]
        have HB := Lib.hid hb
        clear hb h1 h2 h3
        rcases hcx with rfl | rfl | rfl <;> rcases hcy with rfl | rfl | rfl
        all_goals first | (cases h1'; done) | (cases h2'; done) | skip
        all_goals
          clear h1' h2'
          go_wp2
          go_ret
          exact ⟨ret_int (by rw [← HR.out, HB.out] <;> decide), hs⟩
      · have h3' : ((xs.length : Int) != (ys.length : Int)) = true := by simp <;> omega
        have hb : both xs ys = 4 := by unfold both; rw [if_pos (.inr (.inr h3))]
        have HB := Lib.hid hb
        clear hb h1 h2 h3 hcx hcy
        go_wp2
        go_ret
        exact ⟨ret_int (by rw [← HR.out, HB.out]), hs⟩
end Go.Proofs.Ytibjpclmiaimaaa


/- Permutations: lists that are answered; place, slices.Index, DocCheck, worse, slices.Clone. -/
namespace Go.Tk
open Go.RowKit
theorem Frm.same_app {w0 w wa wb : World} {A : Option Addr} {N C : Nat} (h : Frm (fun _ => False) w0 w) (ha : Frm (fun _ => False) w wa) (hg : wa.grownBy wb (Value.slice A N C).ownBlock) (hA : Fresh w0.heap.size A) : Frm (fun _ => False) w0 wb :=
  (h.trans ha (fun _ _ h => h)).grown hg (fun g hg => .inr (hA g (ownBlock_row.1 hg)))
theorem Same.app {w0 w wa wb : World} {A : Option Addr} {N C : Nat} (h : Same w0 w) (ha : Same w wa) (hg : wa.grownBy wb (Value.slice A N C).ownBlock) (hA : Fresh w0.heap.size A) : Same w0 wb := Frm.same_app h ha hg hA
theorem fresh_app {w0 w wa : World} {A : Option Addr} {N C g : Nat} (h : Same w0 w) (ha : Same w wa) (hA : Fresh w0.heap.size A) (hat : (Value.slice A N C).ownBlock = some g ∨ g = wa.heap.size) : Fresh w0.heap.size (some ⟨g, 0, none⟩) := by
  refine fresh_some ?_
  have := h.size
  have := ha.size
  rcases hat with h | h
  · exact hA g (ownBlock_row.1 h)
  · omega
theorem IL.src {w : World} {A : Option Addr} {n : Nat} {xs : List Int} (h : IL w A n xs) (hne : xs ≠ []) : ∃ ad, A = some ad ∧ ∀ j u, (xs.flatMap icell)[j]? = some u → w.cell? (ad.add j) = some u := by
  have h0 : 0 < xs.length := List.length_pos_iff.2 hne
  obtain ⟨b, off, rfl, _, _⟩ := h.at1 (List.getElem?_eq_getElem h0)
  refine ⟨_, rfl, fun j u hj => ?_⟩
  have hfl : ∀ l : List Int, l.flatMap icell = l.map (fun x => Value.int .i64 x) := by
    intro l
    induction l with
    | nil => rfl
    | cons x l ih => rw [List.flatMap_cons, ih]; rfl
  rw [hfl, List.getElem?_map] at hj
  cases hx : xs[j]? with
  | none => rw [hx] at hj; cases hj
  | some x =>
    rw [hx] at hj
    simp at hj
    subst hj
    obtain ⟨b', off', h1, _, h3⟩ := h.at1 hx
    injection h1 with h1
    injection h1 with h1 h2
    subst h1 h2
    have : (⟨b, off, none⟩ : Addr).add j = ⟨b, off + j, none⟩ := by unfold Addr.add; split <;> simp_all
    rw [this]
    exact h3
theorem IL.nil {w : World} {n : Nat} {xs : List Int} (h : IL w none n xs) : xs = [] := by
  cases xs with
  | nil => rfl
  | cons x xs =>
    obtain ⟨b, off, h1, _⟩ := h.at1 (i := 0) (x := x) rfl
    cases h1
end Go.Tk
namespace Go.Proofs.Ytibjpclmiaimaaa
open Go.RowKit Go.Tk

/-- a list of the call's own -/
def NewL (w : World) (ys : List Int) (A : Option Addr) (C : Nat) (w' : World) : Prop := OwnI w' 3 A ys.length C ys ∧ Fresh w.heap.size A ∧ Same w w'
def RetL (w : World) (ys : List Int) (e : Ending) (w' : World) : Prop := ∃ A C, e = .returned (.slice A ys.length C) ∧ NewL w ys A C w'
def RetE (w : World) (ys : List Int) (err : Int) (e : Ending) (w' : World) : Prop := ∃ A C, e = .returned (.tuple #[.slice A ys.length C, .int .i64 err]) ∧ NewL w ys A C w'
theorem NewL.nil (w : World) : NewL w [] none 0 w := ⟨Own.nil _ _ _ _, fresh_none _, Frm.refl _ _⟩
theorem NewL.nil' {w w' : World} (h : Same w w') : NewL w [] none 0 w' := ⟨Own.nil _ _ _ _, fresh_none _, h⟩

set_option maxHeartbeats 1000000 in
theorem place_any (A : Option Addr) (n C : Nat) (xs : List Int) (x : Int) (w : World) (h : IL w A n xs) (hr : n * 8 ≤ 140737488351232) :
    Calls Try.prog 43 #[.slice A n C, .int .i64 x] w fun e w' => e = .returned (.int .i64 (plc xs x)) ∧ w = w' := by
  obtain rfl := h.len
  have H := Lib.hid h
  clear h
  go_enter Try.func43, Try.ntmps43
  go_wp2
  go_loopw [9] (fun i wr => ∃ k : Nat, k ≤ xs.length ∧ i = .int .i64 k ∧ x ∉ xs.take k ∧ w = wr) (fun i _ => xs.length - (intOf i).toNat)
  case atStart => exact ⟨0, by omega, rfl, by simp, rfl⟩
  case round =>
    obtain ⟨k, hk, rfl, hn, rfl⟩ := hrel
    by_cases hlt : k < xs.length
    · obtain ⟨y, hy⟩ : ∃ y, xs[k]? = some y := ⟨_, List.getElem?_eq_getElem hlt⟩
      obtain ⟨b, off, rfl, hb, hc⟩ := H.out.at1 hy
      have hi0 : (0 : Int) ≤ k := by omega
      have hi1 : (k : Int) < xs.length := by omega
      have HN := Lib.hid hn
      have HY := Lib.hid hy
      clear hn hy
      by_cases he : y = x
      · subst he
        go_wp2
        go_ret
        exact ⟨ret_int (plc_first HY.out HN.out).symm, rfl⟩
      · have he' : (y == x) = false := by simpa using he
        have HE := Lib.hid he
        clear he
        go_wp2
        go_roundw
        case rel => exact ⟨k + 1, by omega, by go_num, by rw [take_snoc HY.out]; simp [HN.out, Ne.symm HE.out], trivial⟩
        case measure => simp [intOf] <;> omega
    · obtain rfl : k = xs.length := by omega
      have HN := Lib.hid hn
      clear hn
      go_wp2
      go_ret
      exact ⟨ret_int (plc_none (by simpa using HN.out)).symm, rfl⟩
set_option maxHeartbeats 1000000 in
theorem index_any (A : Option Addr) (n C : Nat) (xs : List Int) (x : Int) (w : World) (h : IL w A n xs) (hr : n * 8 ≤ 140737488351232) :
    Calls Try.prog 42 #[.slice A n C, .int .i64 x] w fun e w' => e = .returned (.int .i64 (plc xs x)) ∧ w = w' := by
  obtain rfl := h.len
  have H := Lib.hid h
  clear h
  go_enter Try.func42, Try.ntmps42
  go_wp2
  go_loopw [8] (fun i wr => ∃ k : Nat, k ≤ xs.length ∧ i = .int .i64 k ∧ x ∉ xs.take k ∧ w = wr) (fun i _ => xs.length - (intOf i).toNat)
  case atStart => exact ⟨0, by omega, rfl, by simp, rfl⟩
  case round =>
    obtain ⟨k, hk, rfl, hn, rfl⟩ := hrel
    by_cases hlt : k < xs.length
    · obtain ⟨y, hy⟩ : ∃ y, xs[k]? = some y := ⟨_, List.getElem?_eq_getElem hlt⟩
      obtain ⟨b, off, rfl, hb, hc⟩ := H.out.at1 hy
      have hi0 : (0 : Int) ≤ k := by omega
      have hi1 : (k : Int) < xs.length := by omega
      have HN := Lib.hid hn
      have HY := Lib.hid hy
      clear hn hy
      by_cases he : x = y
      · subst he
        go_wp2
        go_ret
        exact ⟨ret_int (plc_first HY.out HN.out).symm, rfl⟩
      · have he' : (x == y) = false := by simpa using he
        have HE := Lib.hid he
        clear he
        go_wp2
        go_roundw
        case rel => exact ⟨k + 1, by omega, by go_num, by rw [take_snoc HY.out]; simp [HN.out, HE.out], trivial⟩
        case measure => simp [intOf] <;> omega
    · obtain rfl : k = xs.length := by omega
      have HN := Lib.hid hn
      clear hn
      go_wp2
      go_ret
      exact ⟨ret_int (plc_none (by simpa using HN.out)).symm, rfl⟩

set_option maxHeartbeats 1000000 in
theorem doccheck_any (A : Option Addr) (n C : Nat) (xs : List Int) (w : World) (h : IL w A n xs) (hr : n * 8 ≤ 140737488351232) :
    Calls Try.prog 29 #[.slice A n C] w fun e w' => e = .returned (.int .i64 (chk xs)) ∧ w = w' := by
  obtain rfl := h.len
  have H := Lib.hid h
  clear h
  go_enter Try.func29, Try.ntmps29
  go_wp2
  go_loopw [3] (fun i wr => ∃ k : Nat, k ≤ xs.length ∧ i = .int .i64 k ∧ (∀ v : Nat, v < k → (v : Int) ∈ xs) ∧ w = wr) (fun i _ => xs.length - (intOf i).toNat)
  case atStart => exact ⟨0, by omega, rfl, fun v hv => by omega, rfl⟩
  case round =>
    obtain ⟨k, hk, rfl, hn, rfl⟩ := hrel
    have HN := Lib.hid hn
    clear hn
    by_cases hlt : k < xs.length
    · have hi1 : (k : Int) < xs.length := by omega
      by_cases he : (k : Int) ∈ xs
      · have hp : ¬ plc xs k < 0 := fun h => plc_neg.1 h he
        have HE := Lib.hid he
        clear he
        go_wp2_with (fail)
        refine (place_any A _ C xs k w H.out hr).mono ?_
        rintro e w1 ⟨rfl, rfl⟩
        go_wp2
        go_roundw
        case rel => exact ⟨k + 1, by omega, by go_num, fun v hv => by
          rcases Nat.lt_or_ge v k with h | h
          · exact HN.out v h
          · obtain rfl : v = k := by omega
            exact HE.out, trivial⟩
        case measure => simp [intOf] <;> omega
      · have hp : plc xs k < 0 := plc_neg.2 he
        have HE := Lib.hid he
        clear he
        go_wp2_with (fail)
        refine (place_any A _ C xs k w H.out hr).mono ?_
        rintro e w1 ⟨rfl, rfl⟩
        go_wp2
        go_ret
        exact ⟨ret_int (by unfold chk; rw [if_neg (fun h => HE.out (h.mem hlt))]), rfl⟩
    · obtain rfl : k = xs.length := by omega
      have HP := Lib.hid (isPerm_of_all HN.out)
      by_cases h64 : 64 < xs.length
      · have h64' : (xs.length : Int) > 64 := by omega
        go_wp2
        go_ret
        exact ⟨ret_int (by unfold chk; rw [if_pos HP.out, if_pos h64]), rfl⟩
      · have h64' : ¬ (xs.length : Int) > 64 := by omega
        go_wp2
        go_ret
        exact ⟨ret_int (by unfold chk; rw [if_pos HP.out, if_neg h64]), rfl⟩

set_option maxHeartbeats 1000000 in
theorem worse_any (A B : Option Addr) (n m C D : Nat) (xs ys : List Int) (w : World) (h : IL w A n xs) (h2 : IL w B m ys) (hr : n * 8 ≤ 140737488351232) (hr2 : m * 8 ≤ 140737488351232) :
    Calls Try.prog 40 #[.slice A n C, .slice B m D] w fun e w' => e = .returned (.int .i64 (both xs ys)) ∧ w = w' := by
  obtain rfl := h.len
  obtain rfl := h2.len
  have H := Lib.hid h
  have H2 := Lib.hid h2
  clear h h2
  obtain ⟨r, hrr⟩ : ∃ r, both xs ys = r := ⟨_, rfl⟩
  rw [hrr]
  have HR := Lib.hid hrr
  clear hrr
  go_enter Try.func40, Try.ntmps40
  go_wp2_with (fail)
  refine (doccheck_any A _ C xs w H.out hr).mono ?_
  rintro e w1 ⟨rfl, rfl⟩
  go_wp2_with (fail)
  refine (doccheck_any B _ D ys w H2.out hr2).mono ?_
  rintro e w1 ⟨rfl, rfl⟩
  have hcx := chk_cases xs
  have hcy := chk_cases ys
  obtain ⟨cx, hx⟩ : ∃ c, chk xs = c := ⟨_, rfl⟩
  obtain ⟨cy, hy⟩ : ∃ c, chk ys = c := ⟨_, rfl⟩
  rw [hx] at hcx ⊢
  rw [hy] at hcy ⊢
  have HX := Lib.hid hx
  have HY := Lib.hid hy
  clear hx hy
  by_cases h1 : cx = 4
  · subst h1
    go_wp2
    go_ret
    exact ⟨ret_int (by rw [← HR.out]; unfold both; rw [HX.out, if_pos (.inl rfl)]), rfl⟩
  · have h1' : (cx == 4) = false := by simpa using h1
    by_cases h2 : cy = 4
    · subst h2
      clear hcx hcy
      go_wp2
      go_ret
      exact ⟨ret_int (by rw [← HR.out]; unfold both; rw [HY.out, if_pos (.inr (.inl rfl))]), rfl⟩
    · have h2' : (cy == 4) = false := by simpa using h2
      by_cases h3 : xs.length = ys.length
      · have h3' : ((xs.length : Int) != (ys.length : Int)) = false := by simp [h3]
        have hb : both xs ys = max cx cy := by unfold both; rw [HX.out, HY.out, if_neg (by simp [h1, h2, h3])]
        have HB := Lib.hid hb
        clear hb h1 h2 h3
        rcases hcx with rfl | rfl | rfl <;> rcases hcy with rfl | rfl | rfl
        all_goals first | (cases h1'; done) | (cases h2'; done) | skip
        all_goals
          clear h1' h2'
          go_wp2
          go_ret
          exact ⟨ret_int (by rw [← HR.out, HB.out] <;> decide), rfl⟩
      · have h3' : ((xs.length : Int) != (ys.length : Int)) = true := by simp <;> omega
        have hb : both xs ys = 4 := by unfold both; rw [if_pos (.inr (.inr h3))]
        have HB := Lib.hid hb
        clear hb h1 h2 h3 hcx hcy
        go_wp2
        go_ret
        exact ⟨ret_int (by rw [← HR.out, HB.out]), rfl⟩

set_option maxHeartbeats 1000000 in
theorem clone_any (A : Option Addr) (n C : Nat) (xs : List Int) (w : World) (h : IL w A n xs) (hr : n * 8 ≤ 140737488351232) :
    Calls Try.prog 41 #[.slice A n C] w (RetL w xs) := by
  obtain rfl := h.len
  cases A with
  | none =>
    have hx := h.nil
    subst hx
    clear h
    go_enter Try.func41, Try.ntmps41
    go_wp2
    go_ret
    exact ⟨none, 0, rfl, NewL.nil w⟩
  | some ad =>
    have H := Lib.hid h
    clear h
    go_enter Try.func41, Try.ntmps41
    go_upto_region 3 with fail
    refine wp_region_lit ?_
    refine wpList_plain rfl fun K hK => ?_
    go_simp
    refine hK _ _ ?_
    clear hK K
    refine list_world fun wa hwa => ?_
    have hO := Own.lit w 3 icell (fun _ => rfl) [] (by simp) (cs := #[]) rfl
    have hsa : Same w wa := by rw [hwa]; exact (Frm.refl _ _).alloc _
    rw [← hwa] at hO
    clear hwa
    refine wpList_read 1 ?_
    simp only [List.take_succ_cons, List.take_zero, List.drop_succ_cons, List.drop_zero]
    repeat (any_goals (first | go_big_quiet_step (fail) | quiet_step (fail)))
    refine wpQuiet_nil ?_
    refine wpList_plain rfl fun K hK => ?_
    refine Own.append_many (.tmp 5) (.tmp 6) _ rfl Try.underlying22 info_int rfl (by omega) rfl hO (fun _ => rfl) xs (some ad) C rfl (fun hne => IL.src (Sl.same H.out hsa) hne) (by simp [icell, Value.oneCell']) (by simp [maxLen] <;> omega) (by simp <;> omega) ?_
    intro A1 C1 w1 hO1 hg1 hat1
    refine hK _ _ ?_
    clear hK K
    simp only [List.nil_append] at hO1 ⊢
    have hF0 : Fresh w.heap.size (some ⟨w.heap.size, 0, none⟩) := fresh_some (Nat.le_refl _)
    have hs1 := Same.app (Frm.refl _ _) hsa hg1 hF0
    have hF1 : Fresh w.heap.size A1 := fun b hb => by
      have := hsa.size
      rcases hat1 b hb with h | h
      · exact hF0 b h
      · omega
    have HO1 := Lib.hid hO1
    have HS1 := Lib.hid hs1
    have HF1 := Lib.hid hF1
    clear hO1 hs1 hF1 hat1 hg1 hF0 hO hsa
    go_wp2
    go_ret
    exact ⟨A1, C1, rfl, HO1.out, HF1.out, HS1.out⟩

/-- 0 .. k-1, then noughts -/
def idL (n k : Nat) : List Int := (List.range n).map fun j : Nat => if j < k then (j : Int) else 0
theorem idL_len (n k : Nat) : (idL n k).length = n := by simp [idL]
theorem idL_zero (n : Nat) : idL n 0 = List.replicate n 0 := by
  apply List.ext_getElem?
  intro j
  rcases Nat.lt_or_ge j n with h | h
  · simp [idL, h]
  · rw [List.getElem?_eq_none (by rw [idL_len]; exact h), List.getElem?_eq_none (by simpa using h)]
theorem idL_full (n : Nat) : idL n n = rng n := by
  apply List.ext_getElem?
  intro j
  rcases Nat.lt_or_ge j n with h | h
  · rw [rng_get h]; simp [idL, h]
  · rw [List.getElem?_eq_none (by rw [idL_len]; exact h), List.getElem?_eq_none (by rw [rng_len]; exact h)]
theorem idL_set {n k : Nat} (_h : k < n) : (idL n k).set k (k : Int) = idL n (k + 1) := by
  apply List.ext_getElem?
  intro j
  rcases Nat.lt_or_ge j n with hj | hj
  · rw [List.getElem?_set, idL_len]
    simp only [idL, List.getElem?_map, List.getElem?_range hj, Option.map_some]
    split
    · rename_i he; subst he; simp
    · rename_i he
      congr 1
      by_cases h : j < k
      · rw [if_pos h, if_pos (by omega)]
      · rw [if_neg h, if_neg (by omega)]
  · rw [List.getElem?_eq_none (by simp [idL_len, hj]), List.getElem?_eq_none (by rw [idL_len]; exact hj)]

set_option maxHeartbeats 1000000 in
theorem identity_any (n : Nat) (w : World) (hn : n ≤ 1000) : Calls Try.prog 45 #[.int .i64 n] w (RetL w (rng n)) := by
  have hmk := fun w => run_make_n (P := Try.prog) Try.underlying22 info_int .i64 .i64 n (show 8 * n ≤ 281474976710656 by omega) (show n ≤ 9223372036854775807 by omega) w
  have hO := Own.ofMade (m := 1) w 3 icell (fun _ => rfl) (by decide) 0 n (show n ≤ 9223372036854775807 by omega) rfl
  rw [← idL_zero n] at hO
  have hs1 : ∀ cs, Same w (w.alloc (.cells cs 3)) := fun cs => (Frm.refl _ _).alloc _
  have HO := Lib.hid hO
  clear hO
  go_enter Try.func45, Try.ntmps45
  go_wp2
  go_loopw [8] (fun i wr => ∃ k : Nat, k ≤ n ∧ i = .int .i64 k ∧ Same w wr ∧ OwnI wr 3 (some ⟨w.heap.size, 0, none⟩) n n (idL n k)) (fun i _ => n - (intOf i).toNat)
  case atStart => exact ⟨0, by omega, rfl, hs1 _, by simpa [icell] using HO.out⟩
  case round =>
    clear hmk hs1 HO
    obtain ⟨k, hk, rfl, hs, ho⟩ := hrel
    have HS := Lib.hid hs
    have HR := Lib.hid ho
    clear hs ho
    by_cases hlt : k < n
    · have hi1 : (k : Int) < n := by omega
      have hi0 : (0 : Int) ≤ k := by omega
      obtain ⟨sb, hsb, hsl, hsc⟩ := HR.out.at1 (c := fun x => .int .i64 x) (i := k) (x := (idL n k)[k]'(by rw [idL_len]; exact hlt)) (List.getElem?_eq_getElem _)
      injection hsb with hsb
      injection hsb with hsb
      subst hsb
      have hfr := Own.free HR.out k
      have hst := Own.put1 (c := fun x => .int .i64 x) HR.out (i := k) (by rw [idL_len]; exact hlt) (k : Int)
      rw [idL_set hlt] at hst
      generalize (idL n k)[k]'(by rw [idL_len]; exact hlt) = old at hsc
      have HST := Lib.hid hst
      clear hst
      go_wp2
      go_roundw
      case rel => exact ⟨k + 1, by omega, by go_num, HS.out.setNew _ _ (Nat.le_refl _), HST.out⟩
      case measure => simp [intOf] <;> omega
    · obtain rfl : k = n := by omega
      go_wp2
      go_ret
      refine ⟨some ⟨w.heap.size, 0, none⟩, k, by rw [rng_len]; rfl, ?_, fresh_some (Nat.le_refl _), HS.out⟩
      have := HR.out
      rw [idL_full] at this
      rwa [rng_len]
end Go.Proofs.Ytibjpclmiaimaaa


/- Permutations: Swapped of the program; Turned and DocSwapped of the reference. -/
namespace Go.Proofs.Ytibjpclmiaimaaa
open Go.RowKit Go.Tk

theorem swp_get (p : List Int) (l : Nat) {a b : Int} (ha : p[l]? = some a) (hb : p[l + 1]? = some b) : swp p l = (p.set l b).set (l + 1) a := by
  unfold swp
  simp [List.getD_eq_getElem?_getD, ha, hb]
/-- what Swapped answers -/
def swE (p : List Int) (l : Int) : Int := if l < 0 ∨ (p.length : Int) - 2 < l then 1 else chk p
def swL (p : List Int) (l : Int) : List Int := if swE p l = 0 then swp p l.toNat else []

set_option maxHeartbeats 2000000 in
theorem swapped_ok (A : Option Addr) (n C : Nat) (xs : List Int) (l : Nat) (w : World) (h : IL w A n xs) (hr : n * 8 ≤ 140737488351232) (hl : l + 2 ≤ n) (hc : chk xs = 0) :
    Calls Try.prog 22 #[.slice A n C, .int .i64 l] w (RetE w (swp xs l) 0) := by
  obtain rfl := h.len
  have H := Lib.hid h
  have HC := Lib.hid hc
  have hl0 : ¬ (l : Int) < 0 := by omega
  have hl1 : ¬ (l : Int) > (xs.length : Int) - 2 := by omega
  clear h hc
  go_enter Try.func22, Try.ntmps22
  go_wp2_with (fail)
  refine (check_any A _ C xs w H.out hr).mono ?_
  rintro e w1 ⟨rfl, hs1⟩
  rw [HC.out]
  go_wp2_with (fail)
  refine (clone_any A _ C xs w1 (Sl.same H.out hs1) hr).mono ?_
  rintro e w2 ⟨A2, C2, rfl, hO, hF, hs2⟩
  obtain ⟨a, ha⟩ : ∃ a, xs[l]? = some a := ⟨_, List.getElem?_eq_getElem (by omega)⟩
  obtain ⟨b, hb⟩ : ∃ b, xs[l + 1]? = some b := ⟨_, List.getElem?_eq_getElem (by omega)⟩
  obtain ⟨sb, rfl, hsb, ca⟩ := hO.at1 (c := fun x => .int .i64 x) ha
  obtain ⟨sb', hsb', _, cb⟩ := hO.at1 (c := fun x => .int .i64 x) hb
  injection hsb' with hsb'
  injection hsb' with hsb'
  subst hsb'
  have fa := Own.free hO l
  have fb := Own.free hO (l + 1)
  have hs12 : Same w w2 := hs1.trans hs2 (fun _ _ h => h)
  have hsb0 : w.heap.size ≤ sb := by have := hF sb ⟨_, rfl, rfl⟩; have := hs1.size; omega
  have HO := Lib.hid hO
  have HS := Lib.hid hs12
  have HA := Lib.hid ha
  have HB := Lib.hid hb
  clear hO hs12 ha hb hF hs1 hs2
  have hw0 : IntKind.i64.wrap ((l : Int) + 1) = l + 1 := IntWalk.i64_in _ (by omega)
  have hw1 : (0 : Int) ≤ (l : Int) + 1 := by omega
  have hw2 : ((l : Int) + 1).toNat = l + 1 := by omega
  have hw3 : (l : Int) + 1 < xs.length := by omega
  have hw4 : (l : Int) < xs.length := by omega
  have hw5 : (0 : Int) ≤ (l : Int) := by omega
  go_upto_region 7 with fail
  go_region
  have h1 := Own.put1 (c := fun x => .int .i64 x) HO.out (i := l) (by omega) b
  have h2 := Own.put1 (c := fun x => .int .i64 x) h1 (i := l + 1) (by rw [List.length_set]; omega) a
  rw [← swp_get xs l HA.out HB.out] at h2
  have h3 : OwnI ((w2.setCell ⟨sb, l, none⟩ (.int .i64 b)).setCell ⟨sb, l + 1, none⟩ (.int .i64 a)).drew 3 (some ⟨sb, 0, none⟩) xs.length C2 (swp xs l) := Own.frm h2 ((Frm.refl (fun _ => False) _).drew) (fun _ _ => id)
  have hs3 : Same w ((w2.setCell ⟨sb, l, none⟩ (.int .i64 b)).setCell ⟨sb, l + 1, none⟩ (.int .i64 a)).drew := ((HS.out.setNew _ _ hsb0).setNew _ _ hsb0).drew
  generalize ((w2.setCell ⟨sb, l, none⟩ (.int .i64 b)).setCell ⟨sb, l + 1, none⟩ (.int .i64 a)).drew = w3 at h3 hs3 ⊢
  have HO3 := Lib.hid h3
  have HS3 := Lib.hid hs3
  clear h1 h2 h3 hs3 ca cb fa fb hw0 hw1 hw2 hw3 hw4 hw5
  go_wp2
  go_ret2
  exact ⟨some ⟨sb, 0, none⟩, C2, by rw [swp_len]; rfl, by rw [swp_len]; exact HO3.out, fresh_some hsb0, HS3.out⟩
set_option maxHeartbeats 1000000 in
theorem swapped_any (A : Option Addr) (n C : Nat) (xs : List Int) (l : Int) (w : World) (h : IL w A n xs) (hr : n * 8 ≤ 140737488351232) :
    Calls Try.prog 22 #[.slice A n C, .int .i64 l] w (RetE w (swL xs l) (swE xs l)) := by
  obtain rfl := h.len
  by_cases h0 : l < 0
  · have he : swE xs l = 1 := by unfold swE; rw [if_pos (.inl h0)]
    have hy : swL xs l = [] := by unfold swL; rw [he, if_neg (by decide)]
    rw [he, hy]
    clear h he hy
    go_enter Try.func22, Try.ntmps22
    go_wp2
    go_ret2
    exact ⟨none, 0, rfl, NewL.nil w⟩
  · by_cases h1 : l > (xs.length : Int) - 2
    · have he : swE xs l = 1 := by unfold swE; rw [if_pos (.inr (by omega))]
      have hy : swL xs l = [] := by unfold swL; rw [he, if_neg (by decide)]
      rw [he, hy]
      clear h he hy
      go_enter Try.func22, Try.ntmps22
      go_wp2
      go_ret2
      exact ⟨none, 0, rfl, NewL.nil w⟩
    · have he : swE xs l = chk xs := by unfold swE; rw [if_neg (by omega)]
      by_cases hc : chk xs = 0
      · have hy : swL xs l = swp xs l.toNat := by unfold swL; rw [he, hc, if_pos rfl]
        rw [he, hc, hy]
        have := swapped_ok A _ C xs l.toNat w h hr (by omega) hc
        rwa [show ((l.toNat : Nat) : Int) = l by omega] at this
      · have hy : swL xs l = [] := by unfold swL; rw [he, if_neg hc]
        rw [he, hy]
        obtain ⟨c, hcc⟩ : ∃ c, chk xs = c := ⟨_, rfl⟩
        rw [hcc] at hc ⊢
        have hc' : (c != 0) = true := by simpa using hc
        have HC := Lib.hid hcc
        have H := Lib.hid h
        clear h he hy hcc hc
        go_enter Try.func22, Try.ntmps22
        go_wp2_with (fail)
        refine (check_any A _ C xs w H.out hr).mono ?_
        rintro e w1 ⟨rfl, hs1⟩
        rw [HC.out]
        go_wp2
        go_ret2
        exact ⟨none, 0, rfl, NewL.nil' hs1⟩

set_option maxHeartbeats 2000000 in
theorem turned_any (A : Option Addr) (n C : Nat) (xs : List Int) (l : Nat) (w : World) (h : IL w A n xs) (hr : n * 8 ≤ 140737488351232) (hl : l + 2 ≤ n) :
    Calls Try.prog 44 #[.slice A n C, .int .i64 l] w (RetL w (swp xs l)) := by
  obtain rfl := h.len
  have H := Lib.hid h
  clear h
  go_enter Try.func44, Try.ntmps44
  go_upto_region 2 with fail
  refine wp_read 2 ?_
  simp only [List.take_succ_cons, List.take_zero, List.drop_succ_cons, List.drop_zero]
  repeat (any_goals (first | go_big_quiet_step (fail) | quiet_step (fail)))
  refine wpQuiet_nil ?_
  refine wpList_plain rfl fun K hK => ?_
  refine Own.append_many (.tmp 6) (.tmp 7) _ rfl Try.underlying22 info_int rfl (by omega) rfl (Own.nil w _ _ _) (fun _ => rfl) xs A C rfl (fun hne => IL.src H.out hne) (by simp [icell, Value.oneCell']) (by simp [maxLen] <;> omega) (by simp <;> omega) ?_
  intro A2 C2 w2 hO hg hat
  refine hK _ _ ?_
  clear hK K
  simp only [List.nil_append] at hO ⊢
  have hs12 := Same.app (Frm.refl _ w) (Frm.refl _ _) hg (fresh_none _)
  obtain ⟨a, ha⟩ : ∃ a, xs[l]? = some a := ⟨_, List.getElem?_eq_getElem (by omega)⟩
  obtain ⟨b, hb⟩ : ∃ b, xs[l + 1]? = some b := ⟨_, List.getElem?_eq_getElem (by omega)⟩
  obtain ⟨sb, rfl, hsb, ca⟩ := hO.at1 (c := fun x => .int .i64 x) ha
  obtain ⟨sb', hsb', _, cb⟩ := hO.at1 (c := fun x => .int .i64 x) hb
  injection hsb' with hsb'
  injection hsb' with hsb'
  subst hsb'
  have fa := Own.free hO l
  have fb := Own.free hO (l + 1)
  have hsb0 : w.heap.size ≤ sb := by
    rcases hat sb ⟨_, rfl, rfl⟩ with ⟨a, h, _⟩ | h
    · cases h
    · omega
  have HO := Lib.hid hO
  have HS := Lib.hid hs12
  have HA := Lib.hid ha
  have HB := Lib.hid hb
  clear hO hs12 ha hb hg hat
  have hw0 : IntKind.i64.wrap ((l : Int) + 1) = l + 1 := IntWalk.i64_in _ (by omega)
  have hw1 : (0 : Int) ≤ (l : Int) + 1 := by omega
  have hw2 : ((l : Int) + 1).toNat = l + 1 := by omega
  have hw3 : (l : Int) + 1 < xs.length := by omega
  have hw4 : (l : Int) < xs.length := by omega
  have hw5 : (0 : Int) ≤ (l : Int) := by omega
  go_upto_region 3 with fail
  go_region
  have h1 := Own.put1 (c := fun x => .int .i64 x) HO.out (i := l) (by omega) b
  have h2 := Own.put1 (c := fun x => .int .i64 x) h1 (i := l + 1) (by rw [List.length_set]; omega) a
  rw [← swp_get xs l HA.out HB.out] at h2
  have h3 : OwnI ((w2.setCell ⟨sb, l, none⟩ (.int .i64 b)).setCell ⟨sb, l + 1, none⟩ (.int .i64 a)).drew 3 (some ⟨sb, 0, none⟩) xs.length C2 (swp xs l) := Own.frm h2 ((Frm.refl (fun _ => False) _).drew) (fun _ _ => id)
  have hs3 : Same w ((w2.setCell ⟨sb, l, none⟩ (.int .i64 b)).setCell ⟨sb, l + 1, none⟩ (.int .i64 a)).drew := ((HS.out.setNew _ _ hsb0).setNew _ _ hsb0).drew
  generalize ((w2.setCell ⟨sb, l, none⟩ (.int .i64 b)).setCell ⟨sb, l + 1, none⟩ (.int .i64 a)).drew = w3 at h3 hs3 ⊢
  have HO3 := Lib.hid h3
  have HS3 := Lib.hid hs3
  clear h1 h2 h3 hs3 ca cb fa fb hw0 hw1 hw2 hw3 hw4 hw5
  go_wp2
  go_ret
  exact ⟨some ⟨sb, 0, none⟩, C2, by rw [swp_len]; rfl, by rw [swp_len]; exact HO3.out, fresh_some hsb0, HS3.out⟩
set_option maxHeartbeats 1000000 in
theorem docSwapped_any (A : Option Addr) (n C : Nat) (xs : List Int) (l : Int) (w : World) (h : IL w A n xs) (hr : n * 8 ≤ 140737488351232) :
    Calls Try.prog 26 #[.slice A n C, .int .i64 l] w (RetE w (swL xs l) (swE xs l)) := by
  obtain rfl := h.len
  by_cases h0 : l < 0
  · have he : swE xs l = 1 := by unfold swE; rw [if_pos (.inl h0)]
    have hy : swL xs l = [] := by unfold swL; rw [he, if_neg (by decide)]
    rw [he, hy]
    clear h he hy
    go_enter Try.func26, Try.ntmps26
    go_wp2
    go_ret2
    exact ⟨none, 0, rfl, NewL.nil w⟩
  · by_cases h1 : l > (xs.length : Int) - 2
    · have he : swE xs l = 1 := by unfold swE; rw [if_pos (.inr (by omega))]
      have hy : swL xs l = [] := by unfold swL; rw [he, if_neg (by decide)]
      rw [he, hy]
      clear h he hy
      go_enter Try.func26, Try.ntmps26
      go_wp2
      go_ret2
      exact ⟨none, 0, rfl, NewL.nil w⟩
    · have he : swE xs l = chk xs := by unfold swE; rw [if_neg (by omega)]
      obtain ⟨m, rfl⟩ : ∃ m : Nat, l = m := ⟨l.toNat, by omega⟩
      have hm : m + 2 ≤ xs.length := by omega
      obtain ⟨c, hcc⟩ : ∃ c, chk xs = c := ⟨_, rfl⟩
      have HC := Lib.hid hcc
      have H := Lib.hid h
      by_cases hc : c = 0
      · have hy : swL xs m = swp xs m := by unfold swL; rw [he, hcc, if_pos hc]; rfl
        rw [he, hcc, hy]
        subst hc
        clear h he hy hcc
        go_enter Try.func26, Try.ntmps26
        go_wp2_with (fail)
        refine (doccheck_any A _ C xs w H.out hr).mono ?_
        rintro e w1 ⟨rfl, rfl⟩
        rw [HC.out]
        go_wp2_with (fail)
        refine (turned_any A _ C xs m w H.out hr hm).mono ?_
        rintro e w1 ⟨A2, C2, rfl, hN⟩
        have HN := Lib.hid hN
        clear hN
        go_wp2
        go_ret2
        exact ⟨A2, C2, rfl, HN.out⟩
      · have hy : swL xs m = [] := by unfold swL; rw [he, hcc, if_neg hc]
        have hc' : (c != 0) = true := by simpa using hc
        rw [he, hcc, hy]
        clear h he hy hcc hc
        go_enter Try.func26, Try.ntmps26
        go_wp2_with (fail)
        refine (doccheck_any A _ C xs w H.out hr).mono ?_
        rintro e w1 ⟨rfl, rfl⟩
        rw [HC.out]
        go_wp2
        go_ret2
        exact ⟨none, 0, rfl, NewL.nil w⟩
end Go.Proofs.Ytibjpclmiaimaaa


/- Permutations: Identity, Inverse, Compose, Changes of both. -/
namespace Go.Proofs.Ytibjpclmiaimaaa
open Go.RowKit Go.Tk

/-- f at the first k places, noughts behind them -/
def fillL (f : Nat → Int) (n k : Nat) : List Int := (List.range n).map fun j : Nat => if j < k then f j else 0
theorem fillL_len (f : Nat → Int) (n k : Nat) : (fillL f n k).length = n := by simp [fillL]
theorem fillL_zero (f : Nat → Int) (n : Nat) : fillL f n 0 = List.replicate n 0 := by
  apply List.ext_getElem?
  intro j
  rcases Nat.lt_or_ge j n with h | h
  · simp [fillL, h]
  · rw [List.getElem?_eq_none (by rw [fillL_len]; exact h), List.getElem?_eq_none (by simpa using h)]
theorem fillL_full (f : Nat → Int) {n : Nat} {ys : List Int} (hl : ys.length = n) (h : ∀ j, j < n → ys[j]? = some (f j)) : fillL f n n = ys := by
  apply List.ext_getElem?
  intro j
  rcases Nat.lt_or_ge j n with hj | hj
  · rw [h j hj]; simp [fillL, hj]
  · rw [List.getElem?_eq_none (by rw [fillL_len]; exact hj), List.getElem?_eq_none (by omega)]
theorem fillL_set (f : Nat → Int) {n k : Nat} : (fillL f n k).set k (f k) = fillL f n (k + 1) := by
  apply List.ext_getElem?
  intro j
  rcases Nat.lt_or_ge j n with hj | hj
  · rw [List.getElem?_set, fillL_len]
    simp only [fillL, List.getElem?_map, List.getElem?_range hj, Option.map_some]
    split
    · rename_i he; subst he; simp <;> omega
    · rename_i he
      congr 1
      by_cases h : j < k
      · rw [if_pos h, if_pos (by omega)]
      · rw [if_neg h, if_neg (by omega)]
  · rw [List.getElem?_eq_none (by simp [fillL_len, hj]), List.getElem?_eq_none (by rw [fillL_len]; exact hj)]
/-- the places of the first k things -/
def invP (p : List Int) (k : Nat) : List Int := (List.range p.length).map fun j : Nat => if (j : Int) ∈ p.take k then plc p j else 0
theorem invP_len (p : List Int) (k : Nat) : (invP p k).length = p.length := by simp [invP]
theorem invP_zero (p : List Int) : invP p 0 = List.replicate p.length 0 := by
  apply List.ext_getElem?
  intro j
  rcases Nat.lt_or_ge j p.length with h | h
  · simp [invP, h]
  · rw [List.getElem?_eq_none (by rw [invP_len]; exact h), List.getElem?_eq_none (by simpa using h)]
theorem invL_get (p : List Int) {j : Nat} (h : j < p.length) : (invL p)[j]? = some (plc p j) := by simp [invL, rng_get h]
theorem invP_full {p : List Int} (h : IsPerm p) : invP p p.length = invL p := by
  apply List.ext_getElem?
  intro j
  rcases Nat.lt_or_ge j p.length with hj | hj
  · rw [invL_get p hj]
    simp [invP, hj, h.mem hj]
  · rw [List.getElem?_eq_none (by rw [invP_len]; exact hj), List.getElem?_eq_none (by rw [invL_len]; exact hj)]
theorem invP_set {p : List Int} (hn : p.Nodup) {k x : Nat} (h : p[k]? = some (x : Int)) : (invP p k).set x (k : Int) = invP p (k + 1) := by
  apply List.ext_getElem?
  intro j
  rcases Nat.lt_or_ge j p.length with hj | hj
  · rw [List.getElem?_set, invP_len]
    simp only [invP, List.getElem?_map, List.getElem?_range hj, Option.map_some, take_snoc h, List.mem_append, List.mem_singleton]
    split
    · rename_i he; subst he; simp [plc_get hn h] <;> omega
    · rename_i he
      have : ¬ ((j : Int) = (x : Int)) := by omega
      simp [this]
  · rw [List.getElem?_eq_none (by simp [invP_len, hj]), List.getElem?_eq_none (by rw [invP_len]; exact hj)]

def inE (p : List Int) : Int := chk p
def inL (p : List Int) : List Int := if chk p = 0 then invL p else []
set_option maxHeartbeats 1000000 in
theorem inverse_any (A : Option Addr) (n C : Nat) (xs : List Int) (w : World) (h : IL w A n xs) (hr : n * 8 ≤ 140737488351232) :
    Calls Try.prog 18 #[.slice A n C] w (RetE w (inL xs) (chk xs)) := by
  obtain rfl := h.len
  obtain ⟨c, hcc⟩ : ∃ c, chk xs = c := ⟨_, rfl⟩
  have HC := Lib.hid hcc
  have H := Lib.hid h
  by_cases hc : c = 0
  · have hy : inL xs = invL xs := by unfold inL; rw [hcc, if_pos hc]
    rw [hy, hcc]
    subst hc
    have hp := (chk_ok.1 hcc).1
    have hmk := fun w => run_make_n (P := Try.prog) Try.underlying22 info_int .i64 .i64 xs.length (show 8 * xs.length ≤ 281474976710656 by omega) (show xs.length ≤ 9223372036854775807 by omega) w
    have HP := Lib.hid hp
    clear h hcc hp hy
    go_enter Try.func18, Try.ntmps18
    go_wp2_with (fail)
    refine (check_any A _ C xs w H.out hr).mono ?_
    rintro e w1 ⟨rfl, hs1⟩
    rw [HC.out]
    have hO := Own.ofMade (m := 1) w1 3 icell (fun _ => rfl) (by decide) 0 xs.length (show xs.length ≤ 9223372036854775807 by omega) rfl
    rw [← invP_zero xs] at hO
    have hs2 : ∀ cs, Same w (w1.alloc (.cells cs 3)) := fun cs => hs1.alloc _
    have hz1 := hs1.size
    have HO := Lib.hid hO
    have HS2 := Lib.hid hs2
    have H1 := Lib.hid (Sl.same H.out hs1)
    clear hO hs1 hs2
    go_wp2
    generalize w1.heap.size = g at *
    go_loopw [18] (fun i wr => ∃ k : Nat, k ≤ xs.length ∧ i = .int .i64 k ∧ Same w wr ∧ OwnI wr 3 (some ⟨g, 0, none⟩) xs.length xs.length (invP xs k)) (fun i _ => xs.length - (intOf i).toNat)
    case atStart => exact ⟨0, by omega, rfl, HS2.out _, by simpa [icell] using HO.out⟩
    case round =>
      clear hmk HS2 HO H1
      obtain ⟨k, hk, rfl, hs, ho⟩ := hrel
      have HS := Lib.hid hs
      have HR := Lib.hid ho
      by_cases hlt : k < xs.length
      · have hi1 : (k : Int) < xs.length := by omega
        have hi0 : (0 : Int) ≤ k := by omega
        obtain ⟨x, hx⟩ : ∃ x, xs[k]? = some x := ⟨_, List.getElem?_eq_getElem hlt⟩
        have hxr := HP.out.1 x (List.mem_of_getElem? hx)
        obtain ⟨y, rfl⟩ := Int.eq_ofNat_of_zero_le hxr.1
        have hyl : y < xs.length := by omega
        obtain ⟨b, off, rfl, hb, hc⟩ := (Sl.same H.out hs).at1 hx
        obtain ⟨sb, hsb, hsl, hsc⟩ := HR.out.at1 (c := fun x => .int .i64 x) (i := y) (x := (invP xs k)[y]'(by rw [invP_len]; exact hyl)) (List.getElem?_eq_getElem _)
        injection hsb with hsb
        injection hsb with hsb
        subst hsb
        have hfr := Own.free HR.out y
        have hst := Own.put1 (c := fun x => .int .i64 x) HR.out (i := y) (by rw [invP_len]; exact hyl) (k : Int)
        rw [invP_set HP.out.2 hx] at hst
        generalize (invP xs k)[y]'(by rw [invP_len]; exact hyl) = old at hsc
        have HST := Lib.hid hst
        have hi2 : (y : Int) < xs.length := by omega
        clear hst hs ho hx hxr
        go_wp2
        go_roundw
        case rel => exact ⟨k + 1, by omega, by go_num, HS.out.setNew _ _ hz1, HST.out⟩
        case measure => simp [intOf] <;> omega
      · obtain rfl : k = xs.length := by omega
        clear hs ho
        go_wp2
        go_ret2
        refine ⟨some ⟨g, 0, none⟩, xs.length, by rw [invL_len]; rfl, ?_, fresh_some hz1, HS.out⟩
        have := HR.out
        rw [invP_full HP.out] at this
        rwa [invL_len]
  · have hy : inL xs = [] := by unfold inL; rw [hcc, if_neg hc]
    rw [hy, hcc]
    have hc' : (c != 0) = true := by simpa using hc
    clear h hcc hc hy
    go_enter Try.func18, Try.ntmps18
    go_wp2_with (fail)
    refine (check_any A _ C xs w H.out hr).mono ?_
    rintro e w1 ⟨rfl, hs1⟩
    rw [HC.out]
    go_wp2
    go_ret2
    exact ⟨none, 0, rfl, NewL.nil' hs1⟩

set_option maxHeartbeats 1000000 in
theorem docInverse_any (A : Option Addr) (n C : Nat) (xs : List Int) (w : World) (h : IL w A n xs) (hr : n * 8 ≤ 140737488351232) :
    Calls Try.prog 23 #[.slice A n C] w (RetE w (inL xs) (chk xs)) := by
  obtain rfl := h.len
  obtain ⟨c, hcc⟩ : ∃ c, chk xs = c := ⟨_, rfl⟩
  have HC := Lib.hid hcc
  have H := Lib.hid h
  by_cases hc : c = 0
  · have hy : inL xs = invL xs := by unfold inL; rw [hcc, if_pos hc]
    rw [hy, hcc]
    subst hc
    have h64 := (chk_ok.1 hcc).2
    clear h hcc hy
    go_enter Try.func23, Try.ntmps23
    go_wp2_with (fail)
    refine (doccheck_any A _ C xs w H.out hr).mono ?_
    rintro e w1 ⟨rfl, rfl⟩
    rw [HC.out]
    go_wp2
    go_loopw [5, 6] (fun s i wr => ∃ (k : Nat) (A2 : Option Addr) (C2 : Nat), k ≤ xs.length ∧ i = .int .i64 k ∧ s = .slice A2 k C2 ∧ Same w wr ∧ Fresh w.heap.size A2 ∧ OwnI wr 3 A2 k C2 ((invL xs).take k)) (fun _ i _ => xs.length - (intOf i).toNat)
    case atStart => exact ⟨0, none, 0, by omega, rfl, rfl, Frm.refl _ _, fresh_none _, Own.nil _ _ _ _⟩
    case round =>
      obtain ⟨k, A2, C2, hk, rfl, rfl, hs, hf, ho⟩ := hrel
      have HS := Lib.hid hs
      have HR := Lib.hid ho
      have HF := Lib.hid hf
      have hlk : ((invL xs).take k).length = k := by rw [List.length_take, invL_len]; omega
      have HLK := Lib.hid hlk
      clear hs ho hf hlk
      by_cases hlt : k < xs.length
      · have hi1 : (k : Int) < xs.length := by omega
        have hnx := take_snoc (invL_get xs hlt)
        have HNX := Lib.hid hnx
        clear hnx
        go_upto_region 8 with fail
        refine wp_read 3 ?_
        simp only [List.take_succ_cons, List.take_zero, List.drop_succ_cons, List.drop_zero]
        repeat (any_goals (first | go_big_quiet_step (fail) | quiet_step (fail)))
        refine wpQuiet_nil ?_
        refine wpList_plain rfl fun K hK => ?_
        go_simp
        refine (place_any A _ C xs k _ (Sl.same H.out HS.out) hr).mono ?_
        rintro e w1 ⟨rfl, rfl⟩
        refine hK _ _ ?_
        clear hK K
        refine wpList_plain rfl fun K hK => ?_
        go_simp
        refine hK _ _ ?_
        clear hK K
        refine list_world fun wa hwa => ?_
        have hN := Blk.new wr 3 #[.int .i64 (plc xs k)]
        have hsa : Same wr wa := by rw [hwa]; exact (Frm.refl _ _).alloc _
        rw [← hwa] at hN
        clear hwa
        refine Own.append_list (f := icell) rfl (.tmp 18) (.tmp 22) _ rfl Try.underlying22 info_int rfl (by omega) rfl (Own.frm (HR.out) hsa (fun _ _ => id)) (fun _ => rfl) ((plc xs k)) wr.heap.size 1 rfl hN (by simp [Value.oneCell', icell]) (by rw [HLK.out]; simp [maxLen] <;> omega) (by rw [HLK.out]; omega) ?_
        intro gg cap wb hOb hgb hat
        have HOb := Lib.hid hOb
        have HSb := Lib.hid (Same.app (HS.out) hsa hgb (HF.out))
        have HFb := Lib.hid (fresh_app (HS.out) hsa (HF.out) hat)
        clear hOb hgb hat hsa hN
        go_wp2
        go_roundw
        case rel => exact ⟨k + 1, _, cap, by omega, by go_num, rfl, HSb.out, HFb.out, by rw [HNX.out]; exact HOb.out⟩
        case measure => simp [intOf] <;> omega
      · obtain rfl : k = xs.length := by omega
        go_wp2
        go_ret2
        refine ⟨A2, C2, by rw [invL_len]; rfl, ?_, HF.out, HS.out⟩
        have := HR.out
        rw [List.take_of_length_le (by rw [invL_len]; exact Nat.le_refl _)] at this
        rwa [invL_len]
  · have hy : inL xs = [] := by unfold inL; rw [hcc, if_neg hc]
    rw [hy, hcc]
    have hc' : (c != 0) = true := by simpa using hc
    clear h hcc hc hy
    go_enter Try.func23, Try.ntmps23
    go_wp2_with (fail)
    refine (doccheck_any A _ C xs w H.out hr).mono ?_
    rintro e w1 ⟨rfl, rfl⟩
    rw [HC.out]
    go_wp2
    go_ret2
    exact ⟨none, 0, rfl, NewL.nil w⟩

end Go.Proofs.Ytibjpclmiaimaaa


/- Permutations: Inversions of both. -/
namespace Go.Proofs.Ytibjpclmiaimaaa
open Go.RowKit Go.Tk

theorem invC_le (p : List Int) : invC p ≤ p.length * p.length := by
  induction p with
  | nil => simp [invC]
  | cons x p ih =>
    have := List.countP_le_length (p := fun y => decide (x > y)) (l := p)
    simp only [invC, List.length_cons]
    rw [Nat.add_mul, Nat.mul_add]
    omega
theorem invC_le64 {p : List Int} (h : p.length ≤ 64) : invC p ≤ 4096 := Nat.le_trans (invC_le p) (Nat.mul_le_mul h h)
def incN (xs : List Int) : Nat := if chk xs = 0 then invC xs else 0
theorem countP_snoc {α : Type} (f : α → Bool) (l : List α) (x : α) : (l ++ [x]).countP f = l.countP f + if f x then 1 else 0 := by
  rw [List.countP_append, List.countP_cons, List.countP_nil, Nat.zero_add]

set_option maxHeartbeats 2000000 in
theorem inversions_any (A : Option Addr) (n C : Nat) (xs : List Int) (w : World) (h : IL w A n xs) (hr : n * 8 ≤ 140737488351232) :
    Calls Try.prog 24 #[.slice A n C] w fun e w' => e = .returned (.tuple #[.int .i64 (incN xs), .int .i64 (chk xs)]) ∧ Same w w' := by
  obtain rfl := h.len
  obtain ⟨c, hcc⟩ : ∃ c, chk xs = c := ⟨_, rfl⟩
  have HC := Lib.hid hcc
  have H := Lib.hid h
  by_cases hc : c = 0
  · have hy : incN xs = invC xs := by unfold incN; rw [hcc, if_pos hc]
    rw [hy, hcc]
    subst hc
    have h64 := (chk_ok.1 hcc).2
    clear h hcc hy
    go_enter Try.func24, Try.ntmps24
    go_wp2_with (fail)
    refine (check_any A _ C xs w H.out hr).mono ?_
    rintro e w1 ⟨rfl, hs1⟩
    rw [HC.out]
    go_wp2
    go_loopw [5, 15] (fun s i wr => ∃ k : Nat, k ≤ xs.length ∧ i = .int .i64 k ∧ s = .int .i64 (invC (xs.take k) : Nat) ∧ Same w wr) (fun _ i _ => xs.length - (intOf i).toNat)
    case atStart => exact ⟨0, by omega, rfl, rfl, hs1⟩
    case round =>
      clear hs1
      obtain ⟨k, hk, rfl, rfl, hs⟩ := hrel
      by_cases hlt : k < xs.length
      · obtain ⟨y, hy⟩ : ∃ y, xs[k]? = some y := ⟨_, List.getElem?_eq_getElem hlt⟩
        have hi0 : (0 : Int) ≤ k := by omega
        have hi1 : (k : Int) < xs.length := by omega
        have hb := invC_le64 (p := xs.take k) (by rw [List.length_take]; omega)
        obtain ⟨n0, hn0⟩ : ∃ n0, invC (xs.take k) = n0 := ⟨_, rfl⟩
        rw [hn0] at hb ⊢
        have HN0 := Lib.hid hn0
        have HY := Lib.hid hy
        have HS := Lib.hid hs
        clear hn0 hy hs
        go_wp2
        go_loopw [5, 19] (fun s i wv => ∃ m : Nat, m ≤ k ∧ i = .int .i64 m ∧ s = .int .i64 ((n0 + (xs.take m).countP (fun x => decide (x > y)) : Nat) : Int) ∧ Same w wv) (fun _ i _ => k - (intOf i).toNat)
        case atStart => exact ⟨0, by omega, rfl, by simp, HS.out⟩
        case round =>
          obtain ⟨m, hm, rfl, rfl, hsv⟩ := hrel
          have hcl := List.countP_le_length (p := fun x => decide (x > y)) (l := xs.take m)
          rw [List.length_take] at hcl
          by_cases hmk : m < k
          · obtain ⟨x, hx⟩ : ∃ x, xs[m]? = some x := ⟨_, List.getElem?_eq_getElem (by omega)⟩
            obtain ⟨b, off, rfl, hb1, hc1⟩ := (Sl.same H.out hsv).at1 hx
            obtain ⟨b2, off2, hA2, hb2, hc2⟩ := (Sl.same H.out hsv).at1 HY.out
            injection hA2 with hA2
            injection hA2 with hA2 hA3
            subst hA2 hA3
            have hj0 : (0 : Int) ≤ m := by omega
            have hj1 : (m : Int) < k := by omega
            have hj2 : (m : Int) < xs.length := by omega
            have hnx := countP_snoc (fun x => decide (x > y)) (xs.take m) x
            rw [← take_snoc hx] at hnx
            obtain ⟨cm, hcm⟩ : ∃ cm, (xs.take m).countP (fun x => decide (x > y)) = cm := ⟨_, rfl⟩
            rw [hcm] at hnx hcl ⊢
            have HNX := Lib.hid hnx
            have HSV := Lib.hid hsv
            clear hnx hsv hx hcm
            by_cases hgt : x > y
            · have hd : decide (x > y) = true := by simpa using hgt
              have HD := Lib.hid hd
              clear hd
              go_wp2
              refine wp_quiet (by kernel_rfl) (by kernel_rfl) ?_
              repeat (any_goals (first | go_big_quiet_step (fail) | quiet_step (fail)))
              refine wpQuiet_nil ?_
              rintro _ ⟨q, rfl⟩
              have HS2 := Lib.hid (HSV.out.trans (more_same _ q) (fun _ _ h => h))
              go_wp2
              go_roundw
              case rel => exact ⟨m + 1, by omega, by go_num, by rw [HNX.out, HD.out]; go_num, HS2.out⟩
              case measure => simp [intOf] <;> omega
            · have hd : decide (x > y) = false := by simpa using hgt
              have HD := Lib.hid hd
              clear hd
              go_wp2
              refine wp_quiet (by kernel_rfl) (by kernel_rfl) ?_
              repeat (any_goals (first | go_big_quiet_step (fail) | quiet_step (fail)))
              refine wpQuiet_nil ?_
              rintro _ ⟨q, rfl⟩
              have HS2 := Lib.hid (HSV.out.trans (more_same _ q) (fun _ _ h => h))
              go_wp2
              go_roundw
              case rel => exact ⟨m + 1, by omega, by go_num, by rw [HNX.out, HD.out]; rfl, HS2.out⟩
              case measure => simp [intOf] <;> omega
          · obtain rfl : m = k := by omega
            have hnx := invC_snoc (xs.take m) y
            rw [← take_snoc HY.out, HN0.out] at hnx
            have HNX := Lib.hid hnx
            clear hnx
            go_wp2
            go_roundw
            case rel => exact ⟨m + 1, by omega, by go_num, by rw [HNX.out], hsv⟩
            case measure => simp [intOf] <;> omega
      · obtain rfl : k = xs.length := by omega
        go_wp2
        go_ret2
        exact ⟨by rw [List.take_length]; rfl, hs⟩
  · have hy : incN xs = 0 := by unfold incN; rw [hcc, if_neg hc]
    rw [hy, hcc]
    have hc' : (c != 0) = true := by simpa using hc
    clear h hcc hc hy
    go_enter Try.func24, Try.ntmps24
    go_wp2_with (fail)
    refine (check_any A _ C xs w H.out hr).mono ?_
    rintro e w1 ⟨rfl, hs1⟩
    rw [HC.out]
    go_wp2
    go_ret2
    exact ⟨rfl, hs1⟩
theorem drop_cons {α : Type} {l : List α} {k : Nat} {x : α} (h : l[k]? = some x) : l.drop k = x :: l.drop (k + 1) := by
  have hl := lt_of_get h
  rw [List.getElem?_eq_getElem hl] at h
  injection h with h
  rw [List.drop_eq_getElem_cons hl, h]
set_option maxHeartbeats 2000000 in
theorem docInversions_any (A : Option Addr) (n C : Nat) (xs : List Int) (w : World) (h : IL w A n xs) (hr : n * 8 ≤ 140737488351232) :
    Calls Try.prog 25 #[.slice A n C] w fun e w' => e = .returned (.tuple #[.int .i64 (incN xs), .int .i64 (chk xs)]) ∧ Same w w' := by
  obtain rfl := h.len
  obtain ⟨c, hcc⟩ : ∃ c, chk xs = c := ⟨_, rfl⟩
  have HC := Lib.hid hcc
  have H := Lib.hid h
  by_cases hc : c = 0
  · have hy : incN xs = invC xs := by unfold incN; rw [hcc, if_pos hc]
    rw [hy, hcc]
    subst hc
    have h64 := (chk_ok.1 hcc).2
    have hall := invC_le64 h64
    obtain ⟨nt, hnt⟩ : ∃ nt, invC xs = nt := ⟨_, rfl⟩
    rw [hnt] at hall ⊢
    have HNT := Lib.hid hnt
    clear h hcc hy hnt
    go_enter Try.func25, Try.ntmps25
    go_wp2_with (fail)
    refine (doccheck_any A _ C xs w H.out hr).mono ?_
    rintro e w1 ⟨rfl, rfl⟩
    rw [HC.out]
    go_wp2
    go_loopw [5, 6] (fun s i wr => ∃ k m : Nat, k ≤ xs.length ∧ i = .int .i64 k ∧ s = .int .i64 m ∧ m + invC (xs.drop k) = nt ∧ Same w wr) (fun _ i _ => xs.length - (intOf i).toNat)
    case atStart => exact ⟨0, 0, by omega, rfl, rfl, by simpa using HNT.out, Frm.refl _ _⟩
    case round =>
      obtain ⟨k, m0, hk, rfl, rfl, hm0, hs⟩ := hrel
      have hm0b : m0 ≤ 4096 := by omega
      by_cases hlt : k < xs.length
      · obtain ⟨y, hy⟩ : ∃ y, xs[k]? = some y := ⟨_, List.getElem?_eq_getElem hlt⟩
        have hi0 : (0 : Int) ≤ k := by omega
        have hi1 : (k : Int) < xs.length := by omega
        have hM := Lib.hid hm0
        have HY := Lib.hid hy
        have HS := Lib.hid hs
        clear hm0 hy hs
        go_wp2
        go_loopw [5, 7] (fun s i wv => ∃ m : Nat, k + 1 ≤ m ∧ m ≤ xs.length ∧ i = .int .i64 m ∧ s = .int .i64 ((m0 + ((xs.drop (k + 1)).take (m - (k + 1))).countP (fun x => decide (y > x)) : Nat) : Int) ∧ Same w wv) (fun _ i _ => xs.length - (intOf i).toNat)
        case atStart => exact ⟨k + 1, by omega, by omega, by go_num, by simp, HS.out⟩
        case round =>
          obtain ⟨m, hm1, hm2, rfl, rfl, hsv⟩ := hrel
          have hcl := List.countP_le_length (p := fun x => decide (y > x)) (l := (xs.drop (k + 1)).take (m - (k + 1)))
          rw [List.length_take, List.length_drop] at hcl
          by_cases hmk : m < xs.length
          · obtain ⟨x, hx⟩ : ∃ x, xs[m]? = some x := ⟨_, List.getElem?_eq_getElem (by omega)⟩
            obtain ⟨b, off, rfl, hb1, hc1⟩ := (Sl.same H.out hsv).at1 hx
            obtain ⟨b2, off2, hA2, hb2, hc2⟩ := (Sl.same H.out hsv).at1 HY.out
            injection hA2 with hA2
            injection hA2 with hA2 hA3
            subst hA2 hA3
            have hj0 : (0 : Int) ≤ m := by omega
            have hj1 : (m : Int) < xs.length := by omega
            have hx2 : (xs.drop (k + 1))[m - (k + 1)]? = some x := by rw [List.getElem?_drop, show k + 1 + (m - (k + 1)) = m by omega]; exact hx
            have hnx := countP_snoc (fun x => decide (y > x)) ((xs.drop (k + 1)).take (m - (k + 1))) x
            rw [← take_snoc hx2, show m - (k + 1) + 1 = m + 1 - (k + 1) by omega] at hnx
            obtain ⟨cm, hcm⟩ : ∃ cm, ((xs.drop (k + 1)).take (m - (k + 1))).countP (fun x => decide (y > x)) = cm := ⟨_, rfl⟩
            rw [hcm] at hnx hcl ⊢
            have HNX := Lib.hid hnx
            have HSV := Lib.hid hsv
            clear hnx hsv hx hcm hx2
            by_cases hgt : y > x
            · have hd : decide (y > x) = true := by simpa using hgt
              have HD := Lib.hid hd
              clear hd
              go_wp2
              refine wp_quiet (by kernel_rfl) (by kernel_rfl) ?_
              repeat (any_goals (first | go_big_quiet_step (fail) | quiet_step (fail)))
              refine wpQuiet_nil ?_
              rintro _ ⟨q, rfl⟩
              have HS2 := Lib.hid (HSV.out.trans (more_same _ q) (fun _ _ h => h))
              go_wp2
              go_roundw
              case rel => exact ⟨m + 1, by omega, by omega, by go_num, by rw [HNX.out, HD.out]; go_num, HS2.out⟩
              case measure => simp [intOf] <;> omega
            · have hd : decide (y > x) = false := by simpa using hgt
              have HD := Lib.hid hd
              clear hd
              go_wp2
              refine wp_quiet (by kernel_rfl) (by kernel_rfl) ?_
              repeat (any_goals (first | go_big_quiet_step (fail) | quiet_step (fail)))
              refine wpQuiet_nil ?_
              rintro _ ⟨q, rfl⟩
              have HS2 := Lib.hid (HSV.out.trans (more_same _ q) (fun _ _ h => h))
              go_wp2
              go_roundw
              case rel => exact ⟨m + 1, by omega, by omega, by go_num, by rw [HNX.out, HD.out]; rfl, HS2.out⟩
              case measure => simp [intOf] <;> omega
          · obtain rfl : m = xs.length := by omega
            have hfin : m0 + ((xs.drop (k + 1)).take (xs.length - (k + 1))).countP (fun x => decide (y > x)) + invC (xs.drop (k + 1)) = nt := by
              have := hM.out
              rw [drop_cons HY.out, invC] at this
              rw [List.take_of_length_le (by simp)]
              omega
            generalize m0 + ((xs.drop (k + 1)).take (xs.length - (k + 1))).countP (fun x => decide (y > x)) = m1 at hfin ⊢
            have HF := Lib.hid hfin
            have HSV := Lib.hid hsv
            clear hfin hsv
            go_wp2
            go_roundw
            case rel => exact ⟨k + 1, m1, by omega, by go_num, rfl, HF.out, HSV.out⟩
            case measure => simp [intOf] <;> omega
      · obtain rfl : k = xs.length := by omega
        have hfin : m0 = nt := by simpa [invC] using hm0
        subst hfin
        clear hm0
        go_wp2
        go_ret2
        exact ⟨rfl, hs⟩
  · have hy : incN xs = 0 := by unfold incN; rw [hcc, if_neg hc]
    rw [hy, hcc]
    have hc' : (c != 0) = true := by simpa using hc
    clear h hcc hc hy
    go_enter Try.func25, Try.ntmps25
    go_wp2_with (fail)
    refine (doccheck_any A _ C xs w H.out hr).mono ?_
    rintro e w1 ⟨rfl, rfl⟩
    rw [HC.out]
    go_wp2
    go_ret2
    exact ⟨rfl, Frm.refl _ _⟩
end Go.Proofs.Ytibjpclmiaimaaa


/- Permutations: Compose, Identity, Changes of both. -/
namespace Go.Proofs.Ytibjpclmiaimaaa
open Go.RowKit Go.Tk

theorem compL_len (p q : List Int) : (compL p q).length = q.length := by simp [compL]
theorem compL_get (p q : List Int) {j : Nat} {x : Int} (h : q[j]? = some x) : (compL p q)[j]? = some (p.getD x.toNat 0) := by simp [compL, h]
def coL (p q : List Int) : List Int := if both p q = 0 then compL p q else []
set_option maxHeartbeats 1000000 in
theorem compose_any (A B : Option Addr) (n m C D : Nat) (xs ys : List Int) (w : World) (h : IL w A n xs) (h2 : IL w B m ys) (hr : n * 8 ≤ 140737488351232) (hr2 : m * 8 ≤ 140737488351232) :
    Calls Try.prog 13 #[.slice A n C, .slice B m D] w (RetE w (coL xs ys) (both xs ys)) := by
  obtain rfl := h.len
  obtain rfl := h2.len
  obtain ⟨c, hcc⟩ : ∃ c, both xs ys = c := ⟨_, rfl⟩
  have HC := Lib.hid hcc
  have H := Lib.hid h
  have H2 := Lib.hid h2
  by_cases hc : c = 0
  · have hy : coL xs ys = compL xs ys := by unfold coL; rw [hcc, if_pos hc]
    rw [hy, hcc]
    subst hc
    obtain ⟨hp, hq, hlen, h64⟩ := both_ok hcc
    have hl1 : xs.length ≤ ys.length := by omega
    have hl2 : ys.length ≤ xs.length := by omega
    have hmk := fun w => run_make_n (P := Try.prog) Try.underlying22 info_int .i64 .i64 xs.length (show 8 * xs.length ≤ 281474976710656 by omega) (show xs.length ≤ 9223372036854775807 by omega) w
    have HP := Lib.hid hp
    have HQ := Lib.hid hq
    have HLEN := Lib.hid hlen
    clear h h2 hcc hp hq hy hlen
    go_enter Try.func13, Try.ntmps13
    go_wp2_with (fail)
    refine (both_any A B _ _ C D xs ys w H.out H2.out hr hr2).mono ?_
    rintro e w1 ⟨rfl, hs1⟩
    rw [HC.out]
    have hO := Own.ofMade (m := 1) w1 3 icell (fun _ => rfl) (by decide) 0 xs.length (show xs.length ≤ 9223372036854775807 by omega) rfl
    rw [← fillL_zero (fun j => xs.getD (ys.getD j 0).toNat 0)] at hO
    have hs2 : ∀ cs, Same w (w1.alloc (.cells cs 3)) := fun cs => hs1.alloc _
    have hz1 := hs1.size
    have HO := Lib.hid hO
    have HS2 := Lib.hid hs2
    have H1 := Lib.hid (Sl.same H2.out hs1)
    clear hO hs1 hs2
    go_wp2
    generalize w1.heap.size = g at *
    go_loopw [21] (fun i wr => ∃ k : Nat, k ≤ ys.length ∧ i = .int .i64 k ∧ Same w wr ∧ OwnI wr 3 (some ⟨g, 0, none⟩) xs.length xs.length (fillL (fun j => xs.getD (ys.getD j 0).toNat 0) xs.length k)) (fun i _ => ys.length - (intOf i).toNat)
    case atStart => exact ⟨0, by omega, rfl, HS2.out _, by simpa [icell] using HO.out⟩
    case round =>
      clear hmk HS2 HO H1
      obtain ⟨k, hk, rfl, hs, ho⟩ := hrel
      have HS := Lib.hid hs
      have HR := Lib.hid ho
      by_cases hlt : k < ys.length
      · have hi1 : (k : Int) < ys.length := by omega
        have hi0 : (0 : Int) ≤ k := by omega
        have hi2 : (k : Int) < xs.length := by omega
        have hkx : k < xs.length := by omega
        obtain ⟨x, hx⟩ : ∃ x, ys[k]? = some x := ⟨_, List.getElem?_eq_getElem hlt⟩
        have hxr := HQ.out.1 x (List.mem_of_getElem? hx)
        obtain ⟨y, rfl⟩ := Int.eq_ofNat_of_zero_le hxr.1
        have hyl : y < xs.length := by omega
        obtain ⟨z, hz⟩ : ∃ z, xs[y]? = some z := ⟨_, List.getElem?_eq_getElem hyl⟩
        obtain ⟨b, off, rfl, hb, hc⟩ := (Sl.same H2.out hs).at1 hx
        obtain ⟨b2, off2, rfl, hb2, hc2⟩ := (Sl.same H.out hs).at1 hz
        obtain ⟨sb, hsb, hsl, hsc⟩ := HR.out.at1 (c := fun x => .int .i64 x) (i := k) (x := (fillL (fun j => xs.getD (ys.getD j 0).toNat 0) xs.length k)[k]'(by rw [fillL_len]; exact hkx)) (List.getElem?_eq_getElem _)
        injection hsb with hsb
        injection hsb with hsb
        subst hsb
        have hfr := Own.free HR.out k
        have hst := Own.put1 (c := fun x => .int .i64 x) HR.out (i := k) (by rw [fillL_len]; exact hkx) z
        rw [show z = (fun j => xs.getD (ys.getD j 0).toNat 0) k by simp [List.getD_eq_getElem?_getD, hx, hz], fillL_set] at hst
        rw [show (fun j => xs.getD (ys.getD j 0).toNat 0) k = z by simp [List.getD_eq_getElem?_getD, hx, hz]] at hst
        generalize (fillL (fun j => xs.getD (ys.getD j 0).toNat 0) xs.length k)[k]'(by rw [fillL_len]; exact hkx) = old at hsc
        have HST := Lib.hid hst
        have hi3 : (y : Int) < xs.length := by omega
        clear hst hs ho hx hxr hz
        go_wp2
        go_roundw
        case rel => exact ⟨k + 1, by omega, by go_num, HS.out.setNew _ _ hz1, HST.out⟩
        case measure => simp [intOf] <;> omega
      · obtain rfl : k = ys.length := by omega
        clear hs ho
        go_wp2
        go_ret2
        refine ⟨some ⟨g, 0, none⟩, xs.length, by rw [compL_len, ← HLEN.out]; rfl, ?_, fresh_some hz1, HS.out⟩
        have := HR.out
        rw [← HLEN.out, fillL_full (ys := compL xs ys) _ (by rw [compL_len, HLEN.out]) (fun j hj => by
          rw [HLEN.out] at hj
          rw [compL_get xs ys (List.getElem?_eq_getElem hj)]
          simp [List.getD_eq_getElem?_getD, hj])] at this
        rw [compL_len, ← HLEN.out]
        exact this
  · have hy : coL xs ys = [] := by unfold coL; rw [hcc, if_neg hc]
    rw [hy, hcc]
    have hc' : (c != 0) = true := by simpa using hc
    clear h h2 hcc hc hy
    go_enter Try.func13, Try.ntmps13
    go_wp2_with (fail)
    refine (both_any A B _ _ C D xs ys w H.out H2.out hr hr2).mono ?_
    rintro e w1 ⟨rfl, hs1⟩
    rw [HC.out]
    go_wp2
    go_ret2
    exact ⟨none, 0, rfl, NewL.nil' hs1⟩
set_option maxHeartbeats 1000000 in
theorem docCompose_any (A B : Option Addr) (n m C D : Nat) (xs ys : List Int) (w : World) (h : IL w A n xs) (h2 : IL w B m ys) (hr : n * 8 ≤ 140737488351232) (hr2 : m * 8 ≤ 140737488351232) :
    Calls Try.prog 14 #[.slice A n C, .slice B m D] w (RetE w (coL xs ys) (both xs ys)) := by
  obtain rfl := h.len
  obtain rfl := h2.len
  obtain ⟨c, hcc⟩ : ∃ c, both xs ys = c := ⟨_, rfl⟩
  have HC := Lib.hid hcc
  have H := Lib.hid h
  have H2 := Lib.hid h2
  by_cases hc : c = 0
  · have hy : coL xs ys = compL xs ys := by unfold coL; rw [hcc, if_pos hc]
    rw [hy, hcc]
    subst hc
    obtain ⟨hp, hq, hlen, h64⟩ := both_ok hcc
    have hl1 : xs.length ≤ ys.length := by omega
    have hl2 : ys.length ≤ xs.length := by omega
    have HQ := Lib.hid hq
    clear h h2 hcc hp hq hy hlen
    go_enter Try.func14, Try.ntmps14
    go_wp2_with (fail)
    refine (worse_any A B _ _ C D xs ys w H.out H2.out hr hr2).mono ?_
    rintro e w1 ⟨rfl, rfl⟩
    rw [HC.out]
    go_wp2
    go_loopw [7, 18] (fun s i wr => ∃ (k : Nat) (A2 : Option Addr) (C2 : Nat), k ≤ ys.length ∧ i = .int .i64 k ∧ s = .slice A2 k C2 ∧ Same w wr ∧ Fresh w.heap.size A2 ∧ OwnI wr 3 A2 k C2 ((compL xs ys).take k)) (fun _ i _ => ys.length - (intOf i).toNat)
    case atStart => exact ⟨0, none, 0, by omega, rfl, rfl, Frm.refl _ _, fresh_none _, Own.nil _ _ _ _⟩
    case round =>
      obtain ⟨k, A2, C2, hk, rfl, rfl, hs, hf, ho⟩ := hrel
      have HR := Lib.hid ho
      have HF := Lib.hid hf
      have hlk : ((compL xs ys).take k).length = k := by rw [List.length_take, compL_len]; omega
      have HLK := Lib.hid hlk
      by_cases hlt : k < ys.length
      · have hi1 : (k : Int) < ys.length := by omega
        have hi0 : (0 : Int) ≤ k := by omega
        obtain ⟨x, hx⟩ : ∃ x, ys[k]? = some x := ⟨_, List.getElem?_eq_getElem hlt⟩
        have hxr := HQ.out.1 x (List.mem_of_getElem? hx)
        obtain ⟨y, rfl⟩ := Int.eq_ofNat_of_zero_le hxr.1
        have hyl : y < xs.length := by omega
        obtain ⟨z, hz⟩ : ∃ z, xs[y]? = some z := ⟨_, List.getElem?_eq_getElem hyl⟩
        obtain ⟨b, off, rfl, hb, hc⟩ := (Sl.same H2.out hs).at1 hx
        obtain ⟨b2, off2, rfl, hb2, hc2⟩ := (Sl.same H.out hs).at1 hz
        have hnx := take_snoc (compL_get xs ys hx)
        rw [show xs.getD ((y : Nat) : Int).toNat 0 = z by simp [List.getD_eq_getElem?_getD, hz]] at hnx
        have hi3 : (y : Int) < xs.length := by omega
        have hi4 : (0 : Int) ≤ y := by omega
        have HNX := Lib.hid hnx
        have HS := Lib.hid hs
        clear hs ho hf hlk hnx hx hz hxr
        go_upto_region 8 with fail
        refine wp_read 5 ?_
        simp only [List.take_succ_cons, List.take_zero, List.drop_succ_cons, List.drop_zero]
        repeat (any_goals (first | go_big_quiet_step (fail) | quiet_step (fail)))
        refine wpQuiet_nil ?_
        refine wpList_plain rfl fun K hK => ?_
        go_simp
        refine hK _ _ ?_
        clear hK K
        refine list_world fun wa hwa => ?_
        have hN := Blk.new wr 3 #[.int .i64 z]
        have hsa : Same wr wa := by rw [hwa]; exact (Frm.refl _ _).alloc _
        rw [← hwa] at hN
        clear hwa
        refine Own.append_list (f := icell) rfl (.tmp 22) (.tmp 27) _ rfl Try.underlying22 info_int rfl (by omega) rfl (Own.frm (HR.out) hsa (fun _ _ => id)) (fun _ => rfl) (z) wr.heap.size 1 rfl hN (by simp [Value.oneCell', icell]) (by rw [HLK.out]; simp [maxLen] <;> omega) (by rw [HLK.out]; omega) ?_
        intro gg cap wb hOb hgb hat
        have HOb := Lib.hid hOb
        have HSb := Lib.hid (Same.app (HS.out) hsa hgb (HF.out))
        have HFb := Lib.hid (fresh_app (HS.out) hsa (HF.out) hat)
        clear hOb hgb hat hsa hN
        go_wp2
        go_roundw
        case rel => exact ⟨k + 1, _, cap, by omega, by go_num, rfl, HSb.out, HFb.out, by rw [HNX.out]; exact HOb.out⟩
        case measure => simp [intOf] <;> omega
      · obtain rfl : k = ys.length := by omega
        have HS := Lib.hid hs
        clear hs ho hf hlk
        go_wp2
        go_ret2
        refine ⟨A2, C2, by rw [compL_len]; rfl, ?_, HF.out, HS.out⟩
        have := HR.out
        rw [List.take_of_length_le (by rw [compL_len]; exact Nat.le_refl _)] at this
        rwa [compL_len]
  · have hy : coL xs ys = [] := by unfold coL; rw [hcc, if_neg hc]
    rw [hy, hcc]
    have hc' : (c != 0) = true := by simpa using hc
    clear h h2 hcc hc hy
    go_enter Try.func14, Try.ntmps14
    go_wp2_with (fail)
    refine (worse_any A B _ _ C D xs ys w H.out H2.out hr hr2).mono ?_
    rintro e w1 ⟨rfl, rfl⟩
    rw [HC.out]
    go_wp2
    go_ret2
    exact ⟨none, 0, rfl, NewL.nil w⟩
end Go.Proofs.Ytibjpclmiaimaaa


/- Permutations: Identity, Changes of both. -/
namespace Go.Proofs.Ytibjpclmiaimaaa
open Go.RowKit Go.Tk

/-- what Identity answers -/
def idE (n : Int) : Int := if n < 0 ∨ 64 < n then 1 else 0
def idR (n : Int) : List Int := if n < 0 ∨ 64 < n then [] else rng n.toNat
set_option maxHeartbeats 1000000 in
theorem Identity_any (n : Int) (w : World) : Calls Try.prog 19 #[.int .i64 n] w (RetE w (idR n) (idE n)) := by
  by_cases h0 : n < 0
  · have he : idE n = 1 := by unfold idE; rw [if_pos (.inl h0)]
    have hy : idR n = [] := by unfold idR; rw [if_pos (.inl h0)]
    rw [he, hy]
    clear he hy
    go_enter Try.func19, Try.ntmps19
    go_wp2
    go_ret2
    exact ⟨none, 0, rfl, NewL.nil w⟩
  · by_cases h1 : n > 64
    · have he : idE n = 1 := by unfold idE; rw [if_pos (.inr h1)]
      have hy : idR n = [] := by unfold idR; rw [if_pos (.inr h1)]
      rw [he, hy]
      clear he hy
      go_enter Try.func19, Try.ntmps19
      go_wp2
      go_ret2
      exact ⟨none, 0, rfl, NewL.nil w⟩
    · have he : idE n = 0 := by unfold idE; rw [if_neg (by omega)]
      have hy : idR n = rng n.toNat := by unfold idR; rw [if_neg (by omega)]
      rw [he, hy]
      clear he hy
      obtain ⟨m, rfl⟩ : ∃ m : Nat, n = m := ⟨n.toNat, by omega⟩
      go_enter Try.func19, Try.ntmps19
      go_wp2_with (fail)
      refine (identity_any m w (by omega)).mono ?_
      rintro e w1 ⟨A2, C2, rfl, hN⟩
      have HN := Lib.hid hN
      clear hN
      go_wp2
      go_ret2
      exact ⟨A2, C2, rfl, HN.out⟩
set_option maxHeartbeats 1000000 in
theorem docIdentity_any (n : Int) (w : World) : Calls Try.prog 31 #[.int .i64 n] w (RetE w (idR n) (idE n)) := by
  by_cases h0 : n < 0
  · have he : idE n = 1 := by unfold idE; rw [if_pos (.inl h0)]
    have hy : idR n = [] := by unfold idR; rw [if_pos (.inl h0)]
    rw [he, hy]
    clear he hy
    go_enter Try.func31, Try.ntmps31
    go_wp2
    go_ret2
    exact ⟨none, 0, rfl, NewL.nil w⟩
  · by_cases h1 : n > 64
    · have he : idE n = 1 := by unfold idE; rw [if_pos (.inr h1)]
      have hy : idR n = [] := by unfold idR; rw [if_pos (.inr h1)]
      rw [he, hy]
      clear he hy
      go_enter Try.func31, Try.ntmps31
      go_wp2
      go_ret2
      exact ⟨none, 0, rfl, NewL.nil w⟩
    · have he : idE n = 0 := by unfold idE; rw [if_neg (by omega)]
      have hy : idR n = rng n.toNat := by unfold idR; rw [if_neg (by omega)]
      rw [he, hy]
      clear he hy
      obtain ⟨m, rfl⟩ : ∃ m : Nat, n = m := ⟨n.toNat, by omega⟩
      have hm : m ≤ 64 := by omega
      rw [show ((m : Nat) : Int).toNat = m from rfl]
      go_enter Try.func31, Try.ntmps31
      go_wp2
      go_loopw [4, 5] (fun s i wr => ∃ (k : Nat) (A2 : Option Addr) (C2 : Nat), k ≤ m ∧ i = .int .i64 k ∧ s = .slice A2 k C2 ∧ Same w wr ∧ Fresh w.heap.size A2 ∧ OwnI wr 3 A2 k C2 ((rng m).take k)) (fun _ i _ => m - (intOf i).toNat)
      case atStart => exact ⟨0, none, 0, by omega, rfl, rfl, Frm.refl _ _, fresh_none _, Own.nil _ _ _ _⟩
      case round =>
        obtain ⟨k, A2, C2, hk, rfl, rfl, hs, hf, ho⟩ := hrel
        have HR := Lib.hid ho
        have HF := Lib.hid hf
        have HS := Lib.hid hs
        have hlk : ((rng m).take k).length = k := by rw [List.length_take, rng_len]; omega
        have HLK := Lib.hid hlk
        clear hs ho hf hlk
        by_cases hlt : k < m
        · have hi1 : (k : Int) < m := by omega
          have hnx := take_snoc (rng_get hlt)
          have HNX := Lib.hid hnx
          clear hnx
          go_upto_region 7 with fail
          refine wp_read 2 ?_
          simp only [List.take_succ_cons, List.take_zero, List.drop_succ_cons, List.drop_zero]
          repeat (any_goals (first | go_big_quiet_step (fail) | quiet_step (fail)))
          refine wpQuiet_nil ?_
          refine wpList_plain rfl fun K hK => ?_
          go_simp
          refine hK _ _ ?_
          clear hK K
          refine list_world fun wa hwa => ?_
          have hN := Blk.new wr 3 #[.int .i64 (k : Int)]
          have hsa : Same wr wa := by rw [hwa]; exact (Frm.refl _ _).alloc _
          rw [← hwa] at hN
          clear hwa
          refine Own.append_list (f := icell) rfl (.tmp 17) (.tmp 19) _ rfl Try.underlying22 info_int rfl (by omega) rfl (Own.frm (HR.out) hsa (fun _ _ => id)) (fun _ => rfl) ((k : Int)) wr.heap.size 1 rfl hN (by simp [Value.oneCell', icell]) (by rw [HLK.out]; simp [maxLen] <;> omega) (by rw [HLK.out]; omega) ?_
          intro gg cap wb hOb hgb hat
          have HOb := Lib.hid hOb
          have HSb := Lib.hid (Same.app (HS.out) hsa hgb (HF.out))
          have HFb := Lib.hid (fresh_app (HS.out) hsa (HF.out) hat)
          clear hOb hgb hat hsa hN
          go_wp2
          go_roundw
          case rel => exact ⟨k + 1, _, cap, by omega, by go_num, rfl, HSb.out, HFb.out, by rw [HNX.out]; exact HOb.out⟩
          case measure => simp [intOf] <;> omega
        · obtain rfl : k = m := by omega
          go_wp2
          go_ret2
          refine ⟨A2, C2, by rw [rng_len]; rfl, ?_, HF.out, HS.out⟩
          have := HR.out
          rw [List.take_of_length_le (by rw [rng_len]; exact Nat.le_refl _)] at this
          rwa [rng_len]
/-- the exchanges that go through all orders -/
def chL (k : Int) : List Int := if k = 2 then [0] else if k = 3 then [1, 0, 1, 0, 1] else if k = 4 then [2, 1, 0, 2, 0, 1, 2, 0, 2, 1, 0, 2, 0, 1, 2, 0, 2, 1, 0, 2, 0, 1, 2] else []
def chE (k : Int) : Int := if k = 2 ∨ k = 3 ∨ k = 4 then 0 else 1
theorem lit_new (w : World) (ys : List Int) (hm : ys.length ≤ 1000) {cs : Array Value} (hcs : cs = (ys.flatMap icell).toArray) : NewL w ys (some ⟨w.heap.size, 0, none⟩) ys.length (w.alloc (.cells cs 3)) :=
  ⟨Own.lit w 3 icell (fun _ => rfl) ys (show ys.length ≤ 9223372036854775807 by omega) hcs, fresh_some (Nat.le_refl _), (Frm.refl _ _).alloc _⟩
set_option maxHeartbeats 1000000 in
theorem changes_any (k : Int) (w : World) : Calls Try.prog 20 #[.int .i64 k] w (RetE w (chL k) (chE k)) := by
  by_cases h2 : k = 2
  · subst h2
    have hN := lit_new w [0] (by decide) rfl
    have HN := Lib.hid hN
    clear hN
    go_enter Try.func20, Try.ntmps20
    go_wp2
    go_ret2
    exact ⟨_, 1, rfl, HN.out⟩
  · by_cases h3 : k = 3
    · subst h3
      have hN := lit_new w [1, 0, 1, 0, 1] (by decide) rfl
      have HN := Lib.hid hN
      clear hN
      go_enter Try.func20, Try.ntmps20
      go_wp2
      go_ret2
      exact ⟨_, 5, rfl, HN.out⟩
    · by_cases h4 : k = 4
      · subst h4
        have hN := lit_new w [2, 1, 0, 2, 0, 1, 2, 0, 2, 1, 0, 2, 0, 1, 2, 0, 2, 1, 0, 2, 0, 1, 2] (by decide) rfl
        have HN := Lib.hid hN
        clear hN h2 h3
        go_enter Try.func20, Try.ntmps20
        go_wp2
        go_ret2
        exact ⟨_, 23, rfl, HN.out⟩
      · have he : chE k = 1 := by unfold chE; rw [if_neg (by omega)]
        have hy : chL k = [] := by unfold chL; rw [if_neg h2, if_neg h3, if_neg h4]
        rw [he, hy]
        have h2' : (k == 2) = false := by simpa using h2
        have h3' : (k == 3) = false := by simpa using h3
        have h4' : (k == 4) = false := by simpa using h4
        clear h2 h3 h4 he hy
        go_enter Try.func20, Try.ntmps20
        go_wp2
        go_ret2
        exact ⟨none, 0, rfl, NewL.nil w⟩
set_option maxHeartbeats 1000000 in
theorem docChanges_any (k : Int) (w : World) : Calls Try.prog 32 #[.int .i64 k] w (RetE w (chL k) (chE k)) := by
  by_cases h2 : k = 2
  · subst h2
    have hN := lit_new w [0] (by decide) rfl
    have HN := Lib.hid hN
    clear hN
    go_enter Try.func32, Try.ntmps32
    go_wp2
    go_ret2
    exact ⟨_, 1, rfl, HN.out⟩
  · by_cases h3 : k = 3
    · subst h3
      have hN := lit_new w [1, 0, 1, 0, 1] (by decide) rfl
      have HN := Lib.hid hN
      clear hN
      go_enter Try.func32, Try.ntmps32
      go_wp2
      go_ret2
      exact ⟨_, 5, rfl, HN.out⟩
    · by_cases h4 : k = 4
      · subst h4
        have hN := lit_new w [2, 1, 0, 2, 0, 1, 2, 0, 2, 1, 0, 2, 0, 1, 2, 0, 2, 1, 0, 2, 0, 1, 2] (by decide) rfl
        have HN := Lib.hid hN
        clear hN h2 h3
        go_enter Try.func32, Try.ntmps32
        go_wp2
        go_ret2
        exact ⟨_, 23, rfl, HN.out⟩
      · have he : chE k = 1 := by unfold chE; rw [if_neg (by omega)]
        have hy : chL k = [] := by unfold chL; rw [if_neg h2, if_neg h3, if_neg h4]
        rw [he, hy]
        have h2' : (k == 2) = false := by simpa using h2
        have h3' : (k == 3) = false := by simpa using h3
        have h4' : (k == 4) = false := by simpa using h4
        clear h2 h3 h4 he hy
        go_enter Try.func32, Try.ntmps32
        go_wp2
        go_ret2
        exact ⟨none, 0, rfl, NewL.nil w⟩
end Go.Proofs.Ytibjpclmiaimaaa


/- Permutations: Path of both. -/
namespace Go.Proofs.Ytibjpclmiaimaaa
open Go.RowKit Go.Tk

theorem plc_lt (p : List Int) (x : Int) : plc p x < p.length := by
  unfold plc
  split <;> omega
theorem plc_ge (p : List Int) (x : Int) : -1 ≤ plc p x := by unfold plc; split <;> omega
theorem pst_path_le (p q : List Int) : ∀ k, (pst p q k).2.length ≤ k * p.length
  | 0 => by simp [pst]
  | k + 1 => by
    rw [pst, bub_path, Nat.add_mul, Nat.one_mul]
    have := pst_path_le p q k
    have h1 := plc_lt (pst p q k).1 (q.getD k 0)
    rw [pst_len] at h1
    omega
theorem pst_path64 {p q : List Int} {k : Nat} (h : p.length ≤ 64) (hk : k ≤ 64) : (pst p q k).2.length ≤ 4096 := Nat.le_trans (pst_path_le p q k) (Nat.mul_le_mul hk h)
def paL (p q : List Int) : List Int := if both p q = 0 then pathL p q else []

set_option maxHeartbeats 4000000 in
theorem path_any (A B : Option Addr) (n m C D : Nat) (xs ys : List Int) (w : World) (h : IL w A n xs) (h2 : IL w B m ys) (hr : n * 8 ≤ 140737488351232) (hr2 : m * 8 ≤ 140737488351232) :
    Calls Try.prog 15 #[.slice A n C, .slice B m D] w (RetE w (paL xs ys) (both xs ys)) := by
  obtain rfl := h.len
  obtain rfl := h2.len
  obtain ⟨c, hcc⟩ : ∃ c, both xs ys = c := ⟨_, rfl⟩
  have HC := Lib.hid hcc
  have H := Lib.hid h
  have H2 := Lib.hid h2
  by_cases hc : c = 0
  · have hy : paL xs ys = pathL xs ys := by unfold paL; rw [hcc, if_pos hc]
    rw [hy, hcc]
    subst hc
    obtain ⟨hp, hq, hlen, h64⟩ := both_ok hcc
    have hl1 : xs.length ≤ ys.length := by omega
    have hl2 : ys.length ≤ xs.length := by omega
    clear h h2 hcc hp hq hy hlen
    go_enter Try.func15, Try.ntmps15
    go_wp2_with (fail)
    refine (both_any A B _ _ C D xs ys w H.out H2.out hr hr2).mono ?_
    rintro e w1 ⟨rfl, hs1⟩
    rw [HC.out]
    go_wp2_with (fail)
    refine (clone_any A _ C xs w1 (Sl.same H.out hs1) hr).mono ?_
    rintro e w2 ⟨A0, C0, rfl, hO, hF0, hs2⟩
    have hF : Fresh w.heap.size A0 := fun b hb => by have := hF0 b hb; have := hs1.size; omega
    have hs12 : Same w w2 := hs1.trans hs2 (fun _ _ h => h)
    have HO := Lib.hid hO
    have HF0 := Lib.hid hF
    have HS := Lib.hid hs12
    clear hO hF0 hF hs12 hs1 hs2
    go_wp2
    go_loopw [8, 22] (fun s i wr => ∃ (k : Nat) (a b : List Int) (A2 : Option Addr) (C2 : Nat), k ≤ ys.length ∧ i = .int .i64 k ∧ s = .slice A2 b.length C2 ∧ pst xs ys k = (a, b) ∧ a.length = xs.length ∧ Same w wr ∧ Fresh w.heap.size A2 ∧ OwnI wr 3 A0 xs.length C0 a ∧ OwnI wr 3 A2 b.length C2 b ∧ (∀ b, rowOf A0 b → ¬ rowOf A2 b)) (fun _ i _ => ys.length - (intOf i).toNat)
    case atStart => exact ⟨0, xs, [], none, 0, by omega, rfl, rfl, rfl, rfl, HS.out, fresh_none _, HO.out, Own.nil _ _ _ _, fun b _ ⟨a, h, _⟩ => by cases h⟩
    case round =>
      clear HO HS
      obtain ⟨k, a, b, A2, C2, hk, rfl, rfl, hpst, hal, hs, hf, ho, ho2, hd⟩ := hrel
      have HS := Lib.hid hs
      have HR := Lib.hid ho
      have HR2 := Lib.hid ho2
      have HF := Lib.hid hf
      have HD := Lib.hid hd
      have HAL := Lib.hid hal
      have HPST := Lib.hid hpst
      by_cases hlt : k < ys.length
      · have hi1 : (k : Int) < ys.length := by omega
        have hi0 : (0 : Int) ≤ k := by omega
        obtain ⟨y, hy⟩ : ∃ y, ys[k]? = some y := ⟨_, List.getElem?_eq_getElem hlt⟩
        obtain ⟨bb, off, rfl, hbb, hcy⟩ := (Sl.same H2.out hs).at1 hy
        have hnx : bub a b k (plc a y - k).toNat = pst xs ys (k + 1) := by
          rw [pst, hpst]
          simp [List.getD_eq_getElem?_getD, hy]
        have hpl := plc_lt a y
        have hpg := plc_ge a y
        rw [hal] at hpl
        have HNX := Lib.hid hnx
        have hpb := pst_path64 (q := ys) (k := k + 1) h64 (by omega)
        have HPB := Lib.hid hpb
        have HIL := Lib.hid (Own.il ho)
        clear hs ho ho2 hf hd hal hpst hy hnx hpb
        go_wp2_with (fail)
        refine (index_any A0 _ C0 a y _ HIL.out hr).mono ?_
        rintro e w3 ⟨rfl, rfl⟩
        clear hcy
        go_wp2_with (fail)
        generalize plc a y = j0 at *
        go_loopw [8, 11] (fun s jv wv => ∃ (j : Int) (a b : List Int) (A2 : Option Addr) (C2 : Nat), jv = .int .i64 j ∧ s = .slice A2 b.length C2 ∧ -1 ≤ j ∧ j < xs.length ∧ bub a b k (j - k).toNat = pst xs ys (k + 1) ∧ a.length = xs.length ∧ Same w wv ∧ Fresh w.heap.size A2 ∧ OwnI wv 3 A0 xs.length C0 a ∧ OwnI wv 3 A2 b.length C2 b ∧ (∀ b, rowOf A0 b → ¬ rowOf A2 b)) (fun _ jv _ => (intOf jv - k).toNat)
        case atStart => exact ⟨j0, a, b, A2, C2, rfl, rfl, hpg, by omega, HNX.out, HAL.out, HS.out, HF.out, HR.out, HR2.out, HD.out⟩
        case round =>
          clear HNX HAL HS HF HR HR2 HD HPST HIL hpg hpl
          obtain ⟨j, a, b, A2, C2, rfl, rfl, hj0, hj1, hbub, hal, hs, hf, ho, ho2, hd⟩ := hrel
          by_cases hjk : j > k
          · obtain ⟨l, rfl⟩ : ∃ l : Nat, j = (l : Int) + 1 := ⟨(j - 1).toNat, by omega⟩
            have hlk : k ≤ l := by omega
            have hll : l + 1 < xs.length := by omega
            obtain ⟨u, hu⟩ : ∃ u, a[l]? = some u := ⟨_, List.getElem?_eq_getElem (by omega)⟩
            obtain ⟨v, hv⟩ : ∃ v, a[l + 1]? = some v := ⟨_, List.getElem?_eq_getElem (by omega)⟩
            obtain ⟨sb, rfl, hsb, cu⟩ := ho.at1 (c := fun x => .int .i64 x) hu
            obtain ⟨sb', hsb', _, cv⟩ := ho.at1 (c := fun x => .int .i64 x) hv
            injection hsb' with hsb'
            injection hsb' with hsb'
            subst hsb'
            have fu := Own.free ho l
            have fv := Own.free ho (l + 1)
            have hsb0 : w.heap.size ≤ sb := HF0.out sb ⟨_, rfl, rfl⟩
            have hsd : ¬ rowOf A2 sb := hd sb ⟨_, rfl, rfl⟩
            have hb1 : bub (swp a l) (b ++ [(l : Int)]) k (l - k) = pst xs ys (k + 1) := by
              rw [show ((l : Int) + 1 - k).toNat = (l - k) + 1 by omega, bub, show k + (l - k) = l by omega] at hbub
              exact hbub
            have hbl : b.length < 4096 := by
              have h1 := congrArg (fun x => x.2.length) hb1
              simp only [bub_path, List.length_append, List.length_singleton] at h1
              have := HPB.out
              omega
            have HA := Lib.hid hal
            have HR := Lib.hid ho
            have HR2 := Lib.hid ho2
            have HS := Lib.hid hs
            have HF := Lib.hid hf
            have HU := Lib.hid hu
            have HV := Lib.hid hv
            have HB1 := Lib.hid hb1
            clear hbub hal hs hf ho ho2 hd hu hv hb1
            have hw0 : IntKind.i64.wrap ((l : Int) + 1 - 1) = l := by rw [show (l : Int) + 1 - 1 = l by omega]; exact IntWalk.i64_in _ (by omega)
            have hw1 : (0 : Int) ≤ (l : Int) + 1 := by omega
            have hw2 : ((l : Int) + 1).toNat = l + 1 := by omega
            have hw3 : (l : Int) + 1 < xs.length := by omega
            have hw4 : (l : Int) < xs.length := by omega
            have hw5 : (0 : Int) ≤ (l : Int) := by omega
            go_upto_region 12 with fail
            refine wp_world fun wv hwv => ?_
            subst hwv
            go_region
            have h1 := Own.put1 (c := fun x => .int .i64 x) HR.out (i := l) (by rw [HA.out]; omega) v
            have h2 := Own.put1 (c := fun x => .int .i64 x) h1 (i := l + 1) (by rw [List.length_set, HA.out]; omega) u
            rw [← swp_get a l HU.out HV.out] at h2
            have hfar : Frm (fun b => b = sb) wv ((wv.setCell ⟨sb, l, none⟩ (.int .i64 v)).setCell ⟨sb, l + 1, none⟩ (.int .i64 u)).drew := (((Frm.refl (fun b => b = sb) wv).set l (.int .i64 v) rfl).set (l + 1) (.int .i64 u) rfl).drew
            have h3 : OwnI ((wv.setCell ⟨sb, l, none⟩ (.int .i64 v)).setCell ⟨sb, l + 1, none⟩ (.int .i64 u)).drew 3 (some ⟨sb, 0, none⟩) xs.length C0 (swp a l) := Own.frm h2 ((Frm.refl (fun _ => False) _).drew) (fun _ _ => id)
            have h4 := Own.frm HR2.out hfar (fun a ha h => hsd ⟨a, ha, h⟩)
            have hs3 : Same w ((wv.setCell ⟨sb, l, none⟩ (.int .i64 v)).setCell ⟨sb, l + 1, none⟩ (.int .i64 u)).drew := ((HS.out.setNew _ _ hsb0).setNew _ _ hsb0).drew
            generalize ((wv.setCell ⟨sb, l, none⟩ (.int .i64 v)).setCell ⟨sb, l + 1, none⟩ (.int .i64 u)).drew = w3 at h3 h4 hs3 ⊢
            have HO3 := Lib.hid h3
            have HO4 := Lib.hid h4
            have HS3 := Lib.hid hs3
            clear h1 h2 h3 h4 hs3 hfar cu cv fu fv HR HR2 HS
            go_upto_region 13 with fail
            refine wp_read 3 ?_
            simp only [List.take_succ_cons, List.take_zero, List.drop_succ_cons, List.drop_zero]
            repeat (any_goals (first | go_big_quiet_step (fail) | quiet_step (fail)))
            refine wpQuiet_nil ?_
            refine wpList_plain rfl fun K hK => ?_
            go_simp
            refine hK _ _ ?_
            clear hK K
            refine list_world fun wa hwa => ?_
            have hN := Blk.new w3 3 #[.int .i64 (l : Int)]
            have hsa : Same w3 wa := by rw [hwa]; exact (Frm.refl _ _).alloc _
            rw [← hwa] at hN
            clear hwa
            refine Own.append_list (f := icell) rfl (.tmp 51) (.tmp 54) _ rfl Try.underlying22 info_int rfl (by omega) rfl (Own.frm (HO4.out) hsa (fun _ _ => id)) (fun _ => rfl) ((l : Int)) w3.heap.size 1 rfl hN (by simp [Value.oneCell', icell]) (by simp [maxLen] <;> omega) (by omega) ?_
            intro gg cap wb hOb hgb hat
            have hgs : gg ≠ sb := by
              intro h
              subst h
              rcases hat with h | h
              · exact hsd (ownBlock_row.1 h)
              · have := (HO3.out.block _ rfl)
                have := hsa.size
                simp only at *
                omega
            have hO5 := Own.frm (Own.frm HO3.out hsa (fun _ _ => id)) (Frm.grown (S := fun b => rowOf A2 b) (Frm.refl _ _) hgb (fun g hg => .inl (ownBlock_row.1 hg))) (fun a ha h => by injection ha with ha; subst ha; exact hsd h)
            have HO5 := Lib.hid hO5
            have HOb := Lib.hid hOb
            have HSb := Lib.hid (Same.app (HS3.out) hsa hgb (HF.out))
            have HFb := Lib.hid (fresh_app (HS3.out) hsa (HF.out) hat)
            clear hO5 hOb hgb hat hsa hN
            clear hw0 hw1 hw2 hw3 hw5
            go_wp2
            go_roundw
            case rel => exact ⟨(l : Int), swp a l, b ++ [(l : Int)], some ⟨gg, 0, none⟩, cap, by go_num, by simp, by omega, by omega, by rw [show ((l : Int) - k).toNat = l - k by omega]; exact HB1.out, by rw [swp_len]; exact HA.out, HSb.out, HFb.out, HO5.out, by simpa using HOb.out, fun b ⟨a, ha, h⟩ ⟨a', ha', h'⟩ => by
              injection ha with ha
              injection ha' with ha'
              subst ha ha'
              exact hgs (h'.trans h.symm)⟩
            case measure => simp [intOf] <;> omega
          · have hjk' : ¬ j > (k : Int) := hjk
            have hfin : (a, b) = pst xs ys (k + 1) := by
              rw [show (j - (k : Int)).toNat = 0 by omega, bub] at hbub
              exact hbub
            have HFIN := Lib.hid hfin
            have HA := Lib.hid hal
            have HR := Lib.hid ho
            have HR2 := Lib.hid ho2
            have HS := Lib.hid hs
            have HF := Lib.hid hf
            have HD := Lib.hid hd
            clear hbub hfin hal hs hf ho ho2 hd hjk
            go_wp2
            go_roundw
            case rel => exact ⟨k + 1, a, b, A2, C2, by omega, by go_num, rfl, HFIN.out.symm, HA.out, HS.out, HF.out, HR.out, HR2.out, HD.out⟩
            case measure => simp [intOf] <;> omega
      · obtain rfl : k = ys.length := by omega
        clear hs ho ho2 hf hd hal hpst
        go_wp2
        go_ret2
        have hb : pathL xs ys = b := by unfold pathL; rw [HPST.out]
        rw [hb]
        exact ⟨A2, C2, rfl, HR2.out, HF.out, HS.out⟩
  · have hy : paL xs ys = [] := by unfold paL; rw [hcc, if_neg hc]
    rw [hy, hcc]
    have hc' : (c != 0) = true := by simpa using hc
    clear h h2 hcc hc hy
    go_enter Try.func15, Try.ntmps15
    go_wp2_with (fail)
    refine (both_any A B _ _ C D xs ys w H.out H2.out hr hr2).mono ?_
    rintro e w1 ⟨rfl, hs1⟩
    rw [HC.out]
    go_wp2
    go_ret2
    exact ⟨none, 0, rfl, NewL.nil' hs1⟩
end Go.Proofs.Ytibjpclmiaimaaa


/- Permutations: the reference's DocPath. -/
namespace Go.Tk
theorem Sl.frm {w w' : World} {S : Nat → Prop} {m : Nat} {α : Type} {f : α → List Value} {A : Option Addr} {n : Nat} {xs : List α} (h : Sl w m f A n xs) (hf : Frm S w w') (hs : 0 < xs.length → ∀ b, rowOf A b → ¬ S b) : Sl w' m f A n xs :=
  ⟨h.len, fun i x hi => by
    obtain ⟨b, off, h1, h2, h3⟩ := h.get i x hi
    have hl := lt_of_get hi
    exact ⟨b, off, h1, Nat.lt_of_lt_of_le h2 hf.size, fun j hj => by rw [← h3 j hj]; exact hf.cell (p := ⟨b, _, none⟩) h2 (hs (by omega) b ⟨_, h1, rfl⟩)⟩⟩
theorem Sl.row {w : World} {m : Nat} {α : Type} {f : α → List Value} {A : Option Addr} {n : Nat} {xs : List α} (h : Sl w m f A n xs) (h0 : 0 < xs.length) : ∀ b, rowOf A b → b < w.heap.size := by
  rintro b ⟨a, ha, rfl⟩
  obtain ⟨b, off, h1, h2, h3⟩ := h.get 0 _ (List.getElem?_eq_getElem h0)
  rw [h1] at ha
  injection ha with ha
  subst ha
  exact h2
end Go.Tk
namespace Go.Proofs.Ytibjpclmiaimaaa
open Go.RowKit Go.Tk

set_option maxHeartbeats 4000000 in
theorem docPath_any (A B : Option Addr) (n m C D : Nat) (xs ys : List Int) (w : World) (h : IL w A n xs) (h2 : IL w B m ys) (hr : n * 8 ≤ 140737488351232) (hr2 : m * 8 ≤ 140737488351232) :
    Calls Try.prog 16 #[.slice A n C, .slice B m D] w (RetE w (paL xs ys) (both xs ys)) := by
  obtain rfl := h.len
  obtain rfl := h2.len
  obtain ⟨c, hcc⟩ : ∃ c, both xs ys = c := ⟨_, rfl⟩
  have HC := Lib.hid hcc
  have H := Lib.hid h
  have H2 := Lib.hid h2
  by_cases hc : c = 0
  · have hy : paL xs ys = pathL xs ys := by unfold paL; rw [hcc, if_pos hc]
    rw [hy, hcc]
    subst hc
    obtain ⟨hp, hq, hlen, h64⟩ := both_ok hcc
    have hl1 : xs.length ≤ ys.length := by omega
    have hl2 : ys.length ≤ xs.length := by omega
    clear h h2 hcc hp hq hy hlen
    go_enter Try.func16, Try.ntmps16
    go_wp2_with (fail)
    refine (worse_any A B _ _ C D xs ys w H.out H2.out hr hr2).mono ?_
    rintro e w1 ⟨rfl, rfl⟩
    rw [HC.out]
    go_wp2
    go_loopw [0, 7, 8] (fun ps s i wr => ∃ (k : Nat) (a b : List Int) (A1 : Option Addr) (C1 : Nat) (A2 : Option Addr) (C2 : Nat), k ≤ ys.length ∧ i = .int .i64 k ∧ ps = .slice A1 xs.length C1 ∧ s = .slice A2 b.length C2 ∧ pst xs ys k = (a, b) ∧ a.length = xs.length ∧ Same w wr ∧ Fresh w.heap.size A2 ∧ IL wr A1 xs.length a ∧ OwnI wr 3 A2 b.length C2 b ∧ (0 < xs.length → ∀ b, rowOf A1 b → ¬ rowOf A2 b)) (fun _ _ i _ => ys.length - (intOf i).toNat)
    case atStart => exact ⟨0, xs, [], A, C, none, 0, by omega, rfl, rfl, rfl, rfl, rfl, Frm.refl _ _, fresh_none _, H.out, Own.nil _ _ _ _, fun _ b _ ⟨a, h, _⟩ => by cases h⟩
    case round =>
      obtain ⟨k, a, b, A1, C1, A2, C2, hk, rfl, rfl, rfl, hpst, hal, hs, hf, ho, ho2, hd⟩ := hrel
      have HS := Lib.hid hs
      have HR := Lib.hid ho
      have HR2 := Lib.hid ho2
      have HF := Lib.hid hf
      have HD := Lib.hid hd
      have HAL := Lib.hid hal
      have HPST := Lib.hid hpst
      by_cases hlt : k < ys.length
      · have hi1 : (k : Int) < ys.length := by omega
        have hi0 : (0 : Int) ≤ k := by omega
        obtain ⟨y, hy⟩ : ∃ y, ys[k]? = some y := ⟨_, List.getElem?_eq_getElem hlt⟩
        obtain ⟨bb, off, rfl, hbb, hcy⟩ := (Sl.same H2.out hs).at1 hy
        have hnx : bub a b k (plc a y - k).toNat = pst xs ys (k + 1) := by
          rw [pst, hpst]
          simp [List.getD_eq_getElem?_getD, hy]
        have hpl := plc_lt a y
        have hpg := plc_ge a y
        rw [hal] at hpl
        have HNX := Lib.hid hnx
        have hpb := pst_path64 (q := ys) (k := k + 1) h64 (by omega)
        have HPB := Lib.hid hpb
        clear hs ho ho2 hf hd hal hpst hy hnx hpb
        go_wp2_with (fail)
        refine (place_any A1 _ C1 a y _ HR.out hr).mono ?_
        rintro e w3 ⟨rfl, rfl⟩
        clear hcy
        go_wp2_with (fail)
        generalize plc a y = j0 at *
        go_loopw [0, 7, 9] (fun ps s jv wv => ∃ (j : Int) (a b : List Int) (A1 : Option Addr) (C1 : Nat) (A2 : Option Addr) (C2 : Nat), jv = .int .i64 j ∧ ps = .slice A1 xs.length C1 ∧ s = .slice A2 b.length C2 ∧ -1 ≤ j ∧ j < xs.length ∧ bub a b k (j - k).toNat = pst xs ys (k + 1) ∧ a.length = xs.length ∧ Same w wv ∧ Fresh w.heap.size A2 ∧ IL wv A1 xs.length a ∧ OwnI wv 3 A2 b.length C2 b ∧ (0 < xs.length → ∀ b, rowOf A1 b → ¬ rowOf A2 b)) (fun _ _ jv _ => (intOf jv - k).toNat)
        case atStart => exact ⟨j0, a, b, A1, C1, A2, C2, rfl, rfl, rfl, hpg, by omega, HNX.out, HAL.out, HS.out, HF.out, HR.out, HR2.out, HD.out⟩
        case round =>
          clear HNX HAL HS HF HR HR2 HD HPST hpg hpl
          obtain ⟨j, a, b, A1, C1, A2, C2, rfl, rfl, rfl, hj0, hj1, hbub, hal, hs, hf, ho, ho2, hd⟩ := hrel
          by_cases hjk : j > k
          · obtain ⟨l, rfl⟩ : ∃ l : Nat, j = (l : Int) + 1 := ⟨(j - 1).toNat, by omega⟩
            have hlk : k ≤ l := by omega
            have hll : l + 2 ≤ xs.length := by omega
            have hb1 : bub (swp a l) (b ++ [(l : Int)]) k (l - k) = pst xs ys (k + 1) := by
              rw [show ((l : Int) + 1 - k).toNat = (l - k) + 1 by omega, bub, show k + (l - k) = l by omega] at hbub
              exact hbub
            have hbl : b.length < 4096 := by
              have h1 := congrArg (fun x => x.2.length) hb1
              simp only [bub_path, List.length_append, List.length_singleton] at h1
              have := HPB.out
              omega
            have HA := Lib.hid hal
            have HR := Lib.hid ho
            have HR2 := Lib.hid ho2
            have HS := Lib.hid hs
            have HF := Lib.hid hf
            have HB1 := Lib.hid hb1
            clear hbub hal hs hf ho ho2 hd hb1
            have hw0 : (l : Int) + 1 - 1 = l := by omega
            go_wp2_with (fail)
            refine call_world fun wv hwv => ?_
            subst hwv
            refine (turned_any A1 _ C1 a l wv HR.out hr hll).mono ?_
            rintro e w3 ⟨A1', C1', rfl, hO3, hF3, hs3⟩
            rw [swp_len, HA.out] at hO3 ⊢
            have hO4 := Own.frm HR2.out hs3 (fun _ _ => id)
            have hs3' : Same w w3 := HS.out.trans hs3 (fun _ _ h => h)
            have hdj : ∀ b, rowOf A1' b → ¬ rowOf A2 b ∧ b < w3.heap.size := fun b hb => ⟨fun ⟨a, ha, h⟩ => by
              have := HR2.out.block a ha
              have := hF3 b hb
              omega, by obtain ⟨a, ha, rfl⟩ := hb; exact hO3.block a ha⟩
            have HO3 := Lib.hid hO3
            have HO4 := Lib.hid hO4
            have HS3 := Lib.hid hs3'
            have HDJ := Lib.hid hdj
            clear hO3 hF3 hs3 hO4 hs3' hdj HR HR2 HS hw0
            have hw0 : IntKind.i64.wrap ((l : Int) + 1 - 1) = l := by rw [show (l : Int) + 1 - 1 = l by omega]; exact IntWalk.i64_in _ (by omega)
            go_upto_region 12 with fail
            refine wp_read 3 ?_
            simp only [List.take_succ_cons, List.take_zero, List.drop_succ_cons, List.drop_zero]
            repeat (any_goals (first | go_big_quiet_step (fail) | quiet_step (fail)))
            refine wpQuiet_nil ?_
            refine wpList_plain rfl fun K hK => ?_
            go_simp
            refine hK _ _ ?_
            clear hK K
            refine list_world fun wa hwa => ?_
            have hN := Blk.new w3 3 #[.int .i64 (l : Int)]
            have hsa : Same w3 wa := by rw [hwa]; exact (Frm.refl _ _).alloc _
            rw [← hwa] at hN
            clear hwa
            refine Own.append_list (f := icell) rfl (.tmp 37) (.tmp 40) _ rfl Try.underlying22 info_int rfl (by omega) rfl (Own.frm (HO4.out) hsa (fun _ _ => id)) (fun _ => rfl) ((l : Int)) w3.heap.size 1 rfl hN (by simp [Value.oneCell', icell]) (by simp [maxLen] <;> omega) (by omega) ?_
            intro gg cap wb hOb hgb hat
            have hgs : ∀ b, rowOf A1' b → ¬ rowOf (some ⟨gg, 0, none⟩) b := by
              rintro b hb ⟨a, ha, h⟩
              injection ha with ha
              subst ha
              simp only at h
              subst h
              have h5 := HDJ.out gg hb
              have h6 := hsa.size
              rcases hat with h | h
              · exact h5.1 (ownBlock_row.1 h)
              · omega
            have hO5 := Own.frm (Own.frm HO3.out hsa (fun _ _ => id)) (Frm.grown (S := fun b => rowOf A2 b) (Frm.refl _ _) hgb (fun g hg => .inl (ownBlock_row.1 hg))) (fun a ha h => (HDJ.out _ ⟨a, ha, rfl⟩).1 h)
            have HO5 := Lib.hid hO5
            have HOb := Lib.hid hOb
            have HSb := Lib.hid (Same.app (HS3.out) hsa hgb (HF.out))
            have HFb := Lib.hid (fresh_app (HS3.out) hsa (HF.out) hat)
            clear hO5 hOb hgb hat hsa hN
            clear hw0
            go_wp2
            go_roundw
            case rel => exact ⟨(l : Int), swp a l, b ++ [(l : Int)], A1', C1', some ⟨gg, 0, none⟩, cap, by go_num, rfl, by simp, by omega, by omega, by rw [show ((l : Int) - k).toNat = l - k by omega]; exact HB1.out, by rw [swp_len]; exact HA.out, HSb.out, HFb.out, Own.il HO5.out, by simpa using HOb.out, fun _ => hgs⟩
            case measure => simp [intOf] <;> omega
          · have hjk' : ¬ j > (k : Int) := hjk
            have hfin : (a, b) = pst xs ys (k + 1) := by
              rw [show (j - (k : Int)).toNat = 0 by omega, bub] at hbub
              exact hbub
            have HFIN := Lib.hid hfin
            have HA := Lib.hid hal
            have HR := Lib.hid ho
            have HR2 := Lib.hid ho2
            have HS := Lib.hid hs
            have HF := Lib.hid hf
            have HD := Lib.hid hd
            clear hbub hfin hal hs hf ho ho2 hd hjk
            go_wp2
            go_roundw
            case rel => exact ⟨k + 1, a, b, A1, C1, A2, C2, by omega, by go_num, rfl, rfl, HFIN.out.symm, HA.out, HS.out, HF.out, HR.out, HR2.out, HD.out⟩
            case measure => simp [intOf] <;> omega
      · obtain rfl : k = ys.length := by omega
        clear hs ho ho2 hf hd hal hpst
        go_wp2
        go_ret2
        have hb : pathL xs ys = b := by unfold pathL; rw [HPST.out]
        rw [hb]
        exact ⟨A2, C2, rfl, HR2.out, HF.out, HS.out⟩
  · have hy : paL xs ys = [] := by unfold paL; rw [hcc, if_neg hc]
    rw [hy, hcc]
    have hc' : (c != 0) = true := by simpa using hc
    clear h h2 hcc hc hy
    go_enter Try.func16, Try.ntmps16
    go_wp2_with (fail)
    refine (worse_any A B _ _ C D xs ys w H.out H2.out hr hr2).mono ?_
    rintro e w1 ⟨rfl, rfl⟩
    rw [HC.out]
    go_wp2
    go_ret2
    exact ⟨none, 0, rfl, NewL.nil w⟩
end Go.Proofs.Ytibjpclmiaimaaa


/- Permutations: Same of the reference; Rank of the program. -/
namespace Go.Proofs.Ytibjpclmiaimaaa
open Go.RowKit Go.Tk

set_option maxHeartbeats 1000000 in
theorem same_any (A B : Option Addr) (n m C D : Nat) (xs ys : List Int) (w : World) (h : IL w A n xs) (h2 : IL w B m ys) (hr : n * 8 ≤ 140737488351232) (hr2 : m * 8 ≤ 140737488351232) :
    Calls Try.prog 17 #[.slice A n C, .slice B m D] w fun e w' => e = .returned (.bool (decide (xs = ys))) ∧ Same w w' := by
  obtain rfl := h.len
  obtain rfl := h2.len
  have H := Lib.hid h
  have H2 := Lib.hid h2
  clear h h2
  by_cases hl : xs.length = ys.length
  · have hl1 : xs.length ≤ ys.length := by omega
    have hl2 : ys.length ≤ xs.length := by omega
    have hl' : ((xs.length : Int) != (ys.length : Int)) = false := by simp [hl]
    have HL := Lib.hid hl
    clear hl
    go_enter Try.func17, Try.ntmps17
    go_wp2
    go_loopw [5] (fun i wr => ∃ k : Nat, k ≤ xs.length ∧ i = .int .i64 k ∧ xs.take k = ys.take k ∧ Same w wr) (fun i _ => xs.length - (intOf i).toNat)
    case atStart => exact ⟨0, by omega, rfl, rfl, Frm.refl _ _⟩
    case round =>
      obtain ⟨k, hk, rfl, he, hs⟩ := hrel
      by_cases hlt : k < xs.length
      · obtain ⟨x, hx⟩ : ∃ x, xs[k]? = some x := ⟨_, List.getElem?_eq_getElem hlt⟩
        obtain ⟨y, hy⟩ : ∃ y, ys[k]? = some y := ⟨_, List.getElem?_eq_getElem (by omega)⟩
        obtain ⟨b, off, rfl, hb, hc⟩ := (Sl.same H.out hs).at1 hx
        obtain ⟨b2, off2, rfl, hb2, hc2⟩ := (Sl.same H2.out hs).at1 hy
        have hi0 : (0 : Int) ≤ k := by omega
        have hi1 : (k : Int) < xs.length := by omega
        have hi2 : (k : Int) < ys.length := by omega
        have HX := Lib.hid hx
        have HY := Lib.hid hy
        have HE := Lib.hid he
        have HS := Lib.hid hs
        clear hx hy he hs
        by_cases hxy : x = y
        · subst hxy
          go_wp2
          refine wp_quiet (by kernel_rfl) (by kernel_rfl) ?_
          repeat (any_goals (first | go_big_quiet_step (fail) | quiet_step (fail)))
          refine wpQuiet_nil ?_
          rintro _ ⟨q, rfl⟩
          have HS2 := Lib.hid (HS.out.trans (more_same _ q) (fun _ _ h => h))
          go_wp2
          go_roundw
          case rel => exact ⟨k + 1, by omega, by go_num, by rw [take_snoc HX.out, take_snoc HY.out, HE.out], HS2.out⟩
          case measure => simp [intOf] <;> omega
        · have hne : (x != y) = true := by simpa using hxy
          have hfin : decide (xs = ys) = false := by
            rw [decide_eq_false_iff_not]
            rintro rfl
            exact hxy (Option.some.inj (HX.out.symm.trans HY.out))
          have HFIN := Lib.hid hfin
          clear hxy hfin
          go_wp2
          refine wp_quiet (by kernel_rfl) (by kernel_rfl) ?_
          repeat (any_goals (first | go_big_quiet_step (fail) | quiet_step (fail)))
          refine wpQuiet_nil ?_
          rintro _ ⟨q, rfl⟩
          have HS2 := Lib.hid (HS.out.trans (more_same _ q) (fun _ _ h => h))
          go_wp2
          go_ret
          exact ⟨ret_bool HFIN.out.symm, HS2.out⟩
      · obtain rfl : k = xs.length := by omega
        have hfin : decide (xs = ys) = true := by
          rw [decide_eq_true_iff]
          rw [List.take_of_length_le (Nat.le_refl _), List.take_of_length_le (by omega)] at he
          exact he
        have HFIN := Lib.hid hfin
        clear he hfin
        go_wp2
        go_ret
        exact ⟨ret_bool HFIN.out.symm, hs⟩
  · have hl' : ((xs.length : Int) != (ys.length : Int)) = true := by simp <;> omega
    have hfin : decide (xs = ys) = false := by
      rw [decide_eq_false_iff_not]
      rintro rfl
      exact hl rfl
    have HFIN := Lib.hid hfin
    clear hl hfin
    go_enter Try.func17, Try.ntmps17
    go_wp2
    go_ret
    exact ⟨ret_bool HFIN.out.symm, Frm.refl _ _⟩

/-- how many less ones follow the i-th -/
def lessC (xs : List Int) (i : Nat) : Nat := (xs.drop (i + 1)).countP (fun y => decide (y < xs.getD i 0))
def rkS (xs : List Int) : Nat → Nat
  | 0 => 0
  | k + 1 => rkS xs k * (xs.length - k) + lessC xs k
def fact : Nat → Nat
  | 0 => 1
  | n + 1 => (n + 1) * fact n
/-- n (n-1) .. (n-k+1) -/
def dsc (n : Nat) : Nat → Nat
  | 0 => 1
  | k + 1 => dsc n k * (n - k)
theorem fact_pos : ∀ n, 0 < fact n
  | 0 => by decide
  | n + 1 => by unfold fact; exact Nat.mul_pos (by omega) (fact_pos n)
theorem dsc_fact (n : Nat) : ∀ k, k ≤ n → dsc n k * fact (n - k) = fact n
  | 0, _ => by simp [dsc]
  | k + 1, h => by
    have ih := dsc_fact n k (by omega)
    rw [show n - k = (n - (k + 1)) + 1 by omega, fact] at ih
    rw [dsc, Nat.mul_assoc, show n - k = n - (k + 1) + 1 by omega]
    exact ih
theorem fact_le20 {n : Nat} (h : n ≤ 20) : fact n ≤ 2432902008176640000 := by
  have : ∀ n, n ≤ 20 → fact n ≤ 2432902008176640000 := by decide
  exact this n h
theorem dsc_le {n k : Nat} (h : n ≤ 20) (hk : k ≤ n) : dsc n k ≤ 2432902008176640000 := by
  have h1 := dsc_fact n k hk
  have h2 := Nat.le_mul_of_pos_right (dsc n k) (fact_pos (n - k))
  have h3 := fact_le20 h
  omega
theorem lessC_lt (xs : List Int) {k : Nat} (h : k < xs.length) : lessC xs k + k < xs.length := by
  unfold lessC
  have := List.countP_le_length (p := fun y => decide (y < xs.getD k 0)) (l := xs.drop (k + 1))
  rw [List.length_drop] at this
  omega
theorem rkS_lt (xs : List Int) : ∀ k, k ≤ xs.length → rkS xs k < dsc xs.length k
  | 0, _ => by simp [rkS, dsc]
  | k + 1, h => by
    have ih := rkS_lt xs k (by omega)
    have hl := lessC_lt xs (show k < xs.length by omega)
    rw [rkS, dsc]
    have h1 : (rkS xs k + 1) * (xs.length - k) ≤ dsc xs.length k * (xs.length - k) := Nat.mul_le_mul_right _ ih
    rw [Nat.add_mul, Nat.one_mul] at h1
    omega
def rkE (xs : List Int) : Int := if chk xs = 4 then 4 else if 20 < xs.length then 6 else 0
def rkV (xs : List Int) : Nat := if rkE xs = 0 then rkS xs xs.length else 0
end Go.Proofs.Ytibjpclmiaimaaa


/- Permutations: Rank of the program. -/
namespace Go.Tk
theorem IL.drop {w : World} {A : Option Addr} {n C : Nat} {xs : List Int} {b off k : Nat} (h : IL w (some ⟨b, off, none⟩) n xs) (hA : A = if C = k then some ⟨b, off, none⟩ else some ⟨b, off + k, none⟩) (hC : n ≤ C) : IL w A (n - k) (xs.drop k) := by
  obtain rfl := h.len
  refine ⟨by rw [List.length_drop], fun i x hi => ?_⟩
  rw [List.getElem?_drop] at hi
  have hl := lt_of_get hi
  obtain ⟨b', off', h1, h2, h3⟩ := h.get (k + i) x hi
  injection h1 with h1
  injection h1 with h1 h4
  subst h1 h4
  rw [if_neg (by omega)] at hA
  refine ⟨b, off + k, hA, h2, fun j hj => ?_⟩
  have := h3 j hj
  rwa [show off + k + i * 1 + j = off + (k + i) * 1 + j by omega]
end Go.Tk
namespace Go.Proofs.Ytibjpclmiaimaaa
open Go.RowKit Go.Tk

set_option maxHeartbeats 2000000 in
theorem rank_any (A : Option Addr) (n C : Nat) (xs : List Int) (w : World) (h : IL w A n xs) (hr : n * 8 ≤ 140737488351232) (hC : n ≤ C) :
    Calls Try.prog 21 #[.slice A n C] w fun e w' => e = .returned (.tuple #[.int .u64 (rkV xs), .int .i64 (rkE xs)]) ∧ Same w w' := by
  obtain rfl := h.len
  obtain ⟨c, hcc⟩ : ∃ c, chk xs = c := ⟨_, rfl⟩
  have HCC := Lib.hid hcc
  have H := Lib.hid h
  by_cases hc : c = 4
  · have hy : rkE xs = 4 := by unfold rkE; rw [hcc, if_pos hc]
    have hv : rkV xs = 0 := by unfold rkV; rw [hy, if_neg (by decide)]
    rw [hy, hv]
    subst hc
    clear h hcc hy hv
    go_enter Try.func21, Try.ntmps21
    go_wp2_with (fail)
    refine (check_any A _ C xs w H.out hr).mono ?_
    rintro e w1 ⟨rfl, hs1⟩
    rw [HCC.out]
    go_wp2
    go_ret2
    exact ⟨rfl, hs1⟩
  · have hc' : (c == 4) = false := by simpa using hc
    by_cases h20 : 20 < xs.length
    · have hy : rkE xs = 6 := by unfold rkE; rw [hcc, if_neg hc, if_pos h20]
      have hv : rkV xs = 0 := by unfold rkV; rw [hy, if_neg (by decide)]
      rw [hy, hv]
      have h20' : (xs.length : Int) > 20 := by omega
      clear h hcc hy hv hc
      go_enter Try.func21, Try.ntmps21
      go_wp2_with (fail)
      refine (check_any A _ C xs w H.out hr).mono ?_
      rintro e w1 ⟨rfl, hs1⟩
      rw [HCC.out]
      go_wp2
      go_ret2
      exact ⟨rfl, hs1⟩
    · have hy : rkE xs = 0 := by unfold rkE; rw [hcc, if_neg hc, if_neg h20]
      have hv : rkV xs = rkS xs xs.length := by unfold rkV; rw [hy, if_pos rfl]
      rw [hy, hv]
      have h20' : ¬ (xs.length : Int) > 20 := by omega
      have h20n : xs.length ≤ 20 := by omega
      clear h hcc hy hv hc
      go_enter Try.func21, Try.ntmps21
      go_wp2_with (fail)
      refine (check_any A _ C xs w H.out hr).mono ?_
      rintro e w1 ⟨rfl, hs1⟩
      rw [HCC.out]
      go_wp2
      go_loopw [5, 21] (fun s i wr => ∃ k : Nat, k ≤ xs.length ∧ i = .int .i64 k ∧ s = .int .u64 (rkS xs k : Nat) ∧ Same w wr) (fun _ i _ => xs.length - (intOf i).toNat)
      case atStart => exact ⟨0, by omega, rfl, rfl, hs1⟩
      case round =>
        clear hs1
        obtain ⟨k, hk, rfl, rfl, hs⟩ := hrel
        by_cases hlt : k < xs.length
        · obtain ⟨x, hx⟩ : ∃ x, xs[k]? = some x := ⟨_, List.getElem?_eq_getElem hlt⟩
          obtain ⟨b, off, rfl, hb, hcx⟩ := (Sl.same H.out hs).at1 hx
          have hi0 : (0 : Int) ≤ k := by omega
          have hi1 : (k : Int) < xs.length := by omega
          have hi2 : (k : Int) + 1 ≤ xs.length := by omega
          have hi3 : (0 : Int) ≤ (k : Int) + 1 := by omega
          have hi4 : ((k : Int) + 1).toNat = k + 1 := by omega
          have hi5 : IntKind.i64.wrap ((k : Int) + 1) = k + 1 := IntWalk.i64_in _ (by omega)
          have hx' : xs.getD k 0 = x := by simp [List.getD_eq_getElem?_getD, hx]
          obtain ⟨r0, hr0⟩ : ∃ r0, rkS xs k = r0 := ⟨_, rfl⟩
          have hb0 := rkS_lt xs k hk
          have hb1 := dsc_le h20n hk
          rw [hr0] at hb0 ⊢
          have hb2 : r0 < 2432902008176640000 := by omega
          have hnext : rkS xs (k + 1) = r0 * (xs.length - k) + lessC xs k := by rw [rkS, hr0]
          have hnb := rkS_lt xs (k + 1) (by omega)
          have hnb2 := dsc_le (k := k + 1) h20n (by omega)
          have hnb3 : r0 * (xs.length - k) + lessC xs k < 2432902008176640000 := by omega
          have HS := Lib.hid hs
          have HX := Lib.hid hx
          have HX' := Lib.hid hx'
          have HNEXT := Lib.hid hnext
          clear hs hx hx' hr0 hb0 hb1 hnext hnb hnb2
          go_upto_region 11 with fail
          refine wp_read 6 ?_
          simp only [List.take_succ_cons, List.take_zero, List.drop_succ_cons, List.drop_zero]
          repeat (any_goals (first | go_big_quiet_step (fail) | quiet_step (fail)))
          refine wpQuiet_nil ?_
          generalize hA' : (if C = k + 1 then some (⟨b, off, none⟩ : Addr) else some ⟨b, off + (k + 1), none⟩) = A'
          obtain ⟨L, hL⟩ : ∃ L, xs.length - (k + 1) = L := ⟨_, rfl⟩
          have hIL := IL.drop (k := k + 1) H.out hA'.symm hC
          rw [hL] at hIL ⊢
          have hL2 : L + (k + 1) = xs.length := by omega
          have HIL := Lib.hid hIL
          have HL2 := Lib.hid hL2
          have hL3 : L ≤ 20 := by omega
          clear hA' hL hIL hL2 hcx
          go_wp2
          go_loopw [8, 31] (fun s j wv => ∃ m : Nat, m ≤ L ∧ j = .int .i64 m ∧ s = .int .i64 (((xs.drop (k + 1)).take m).countP (fun y => decide (y < x)) : Nat) ∧ Same w wv) (fun _ j _ => L - (intOf j).toNat)
          case atStart => exact ⟨0, by omega, rfl, by simp, HS.out⟩
          case round =>
            obtain ⟨m, hm, rfl, rfl, hsv⟩ := hrel
            have hcl := List.countP_le_length (p := fun y => decide (y < x)) (l := (xs.drop (k + 1)).take m)
            rw [List.length_take] at hcl
            have HSV := Lib.hid hsv
            by_cases hmk : m < L
            · obtain ⟨y, hy⟩ : ∃ y, (xs.drop (k + 1))[m]? = some y := ⟨_, List.getElem?_eq_getElem (by rw [← HIL.out.len]; exact hmk)⟩
              obtain ⟨b2, off2, rfl, hb2, hc2⟩ := (Sl.same HIL.out hsv).at1 hy
              have hj0 : (0 : Int) ≤ m := by omega
              have hj1 : (m : Int) < L := by omega
              have hnx := countP_snoc (fun y => decide (y < x)) ((xs.drop (k + 1)).take m) y
              rw [← take_snoc hy] at hnx
              obtain ⟨cm, hcm⟩ : ∃ cm, ((xs.drop (k + 1)).take m).countP (fun y => decide (y < x)) = cm := ⟨_, rfl⟩
              rw [hcm] at hnx hcl ⊢
              have HNX := Lib.hid hnx
              clear hnx hsv hy hcm
              by_cases hgt : y < x
              · have hd : decide (y < x) = true := by simpa using hgt
                have HD := Lib.hid hd
                clear hd
                go_wp2
                go_roundw
                case rel => exact ⟨m + 1, by omega, by go_num, by rw [HNX.out, HD.out]; go_num, HSV.out⟩
                case measure => simp [intOf] <;> omega
              · have hd : decide (y < x) = false := by simpa using hgt
                have HD := Lib.hid hd
                clear hd
                go_wp2
                go_roundw
                case rel => exact ⟨m + 1, by omega, by go_num, by rw [HNX.out, HD.out]; rfl, HSV.out⟩
                case measure => simp [intOf] <;> omega
            · obtain rfl : m = L := by omega
              have hlc : ((xs.drop (k + 1)).take m).countP (fun y => decide (y < x)) = lessC xs k := by
                unfold lessC
                rw [HX'.out, List.take_of_length_le (by rw [List.length_drop]; have := HL2.out; omega)]
              rw [hlc] at hcl ⊢
              obtain ⟨lc, hlc2⟩ : ∃ lc, lessC xs k = lc := ⟨_, rfl⟩
              rw [hlc2] at hcl hnb3 ⊢
              have HLC := Lib.hid hlc2
              have hq0 : IntKind.u64.wrap ((xs.length : Int) - k) = ((xs.length - k : Nat) : Int) := by rw [IntWalk.u64_in _ (by omega)]; omega
              have hq1 : IntKind.i64.wrap ((xs.length : Int) - k) = (xs.length : Int) - k := IntWalk.i64_in _ (by omega)
              have hq2 : IntKind.u64.wrap ((r0 : Int) * ((xs.length - k : Nat) : Int)) = ((r0 * (xs.length - k) : Nat) : Int) := by
                rw [← Int.natCast_mul]
                exact IntWalk.u64_in _ (by omega)
              have hq3 : IntKind.u64.wrap ((lc : Nat) : Int) = lc := IntWalk.u64_in _ (by omega)
              have hq4 : IntKind.u64.wrap (((r0 * (xs.length - k) : Nat) : Int) + (lc : Int)) = ((r0 * (xs.length - k) + lc : Nat) : Int) := by
                rw [← Int.natCast_add]
                exact IntWalk.u64_in _ (by omega)
              clear hlc hlc2 hsv hcl
              go_upto_region 17 with fail
              refine wp_read 10 ?_
              simp only [List.take_succ_cons, List.take_zero, List.drop_succ_cons, List.drop_zero]
              repeat (any_goals (first | go_big_quiet_step (fail) | quiet_step (fail)))
              refine wpQuiet_nil ?_
              clear hq0 hq1 hq2 hq3 hq4
              go_wp2
              go_roundw
              case rel => exact ⟨k + 1, by omega, by go_num, by rw [HNEXT.out, HLC.out]; simp, HSV.out⟩
              case measure => simp [intOf] <;> omega
        · obtain rfl : k = xs.length := by omega
          go_wp2
          go_ret2
          exact ⟨rfl, hs⟩
end Go.Proofs.Ytibjpclmiaimaaa


/- Permutations: the first look of the laws. -/
namespace Go.Proofs.Ytibjpclmiaimaaa
open Go.RowKit Go.Tk

theorem NewL.il {w w' : World} {ys : List Int} {A : Option Addr} {C : Nat} (h : NewL w ys A C w') : IL w' A ys.length ys := Own.il h.1
theorem lit_il {w w' : World} (ys : List Int) (hm : ys.length ≤ 1000) {cs : Array Value} (hcs : cs = (ys.flatMap icell).toArray) (hw : w' = w.alloc (.cells cs 3)) : IL w' (some ⟨w.heap.size, 0, none⟩) ys.length ys := by
  rw [hw]
  exact (lit_new w ys hm hcs).il
set_option maxHeartbeats 2000000 in
theorem awake_any (w : World) : Calls Try.prog 12 #[] w fun e w' => e = .returned (.bool true) ∧ Same w w' := by
  go_enter Try.func12, Try.ntmps12
  go_wp2_with (fail)
  refine call_world fun w1 hw1 => ?_
  have hi1 := lit_il [2, 0, 1] (by decide) rfl hw1
  have hs1 : Same w w1 := by rw [hw1]; exact (Frm.refl _ _).alloc _
  clear hw1
  have c1 := inverse_any _ 3 3 [2, 0, 1] w1 hi1 (by decide)
  rw [show inL [2, 0, 1] = [1, 2, 0] by decide, show chk [2, 0, 1] = 0 by decide] at c1
  refine c1.mono ?_
  rintro e w2 ⟨A2, C2, rfl, hN2⟩
  clear c1 hi1
  have hs2 : Same w w2 := hs1.trans hN2.2.2 (fun _ _ h => h)
  have hq := hN2.il
  have HS2 := Lib.hid hs2
  have HQ := Lib.hid hq
  clear hN2 hs1 hs2 hq
  go_wp2_with (fail)
  refine call_world fun w3 hw3 => ?_
  have hi3 : IL w3 (some ⟨w2.heap.size, 0, none⟩) 3 [0, 1, 2] := by
    rw [hw3]
    exact Sl.same (lit_il (w := w2) [0, 1, 2] (by decide) rfl rfl) ((Frm.refl _ _).alloc _)
  have hi4 : IL w3 (some ⟨w2.heap.size + 1, 0, none⟩) 3 [2, 1, 0] := by
    have := lit_il (w := w2.alloc (.cells #[.int .i64 0, .int .i64 1, .int .i64 2] 3)) [2, 1, 0] (by decide) rfl hw3
    simpa using this
  have hs3 : Same w2 w3 := by rw [hw3]; exact ((Frm.refl _ _).alloc _).alloc _
  clear hw3
  have c2 := path_any _ _ 3 3 3 3 [0, 1, 2] [2, 1, 0] w3 hi3 hi4 (by decide) (by decide)
  rw [show paL [0, 1, 2] [2, 1, 0] = [1, 0, 1] by decide, show both [0, 1, 2] [2, 1, 0] = 0 by decide] at c2
  refine c2.mono ?_
  rintro e w4 ⟨A4, C4, rfl, hN4⟩
  clear c2 hi3 hi4
  have hs24 : Same w2 w4 := hs3.trans hN4.2.2 (fun _ _ h => h)
  have HP := Lib.hid hN4.il
  have HQ4 := Lib.hid (Sl.same HQ.out hs24)
  have HS4 := Lib.hid (HS2.out.trans hs24 (fun _ _ h => h))
  clear hN4 hs24 hs3 HQ HS2
  go_wp2_with (fail)
  refine call_world fun w5 hw5 => ?_
  have hi5 := lit_il [2, 1, 0] (by decide) rfl hw5
  have hs5 : Same w4 w5 := by rw [hw5]; exact (Frm.refl _ _).alloc _
  clear hw5
  have c3 := rank_any _ 3 3 [2, 1, 0] w5 hi5 (by decide) (by decide)
  rw [show rkV [2, 1, 0] = 5 by decide, show rkE [2, 1, 0] = 0 by decide] at c3
  refine c3.mono ?_
  rintro e w6 ⟨rfl, hs6⟩
  clear c3 hi5
  have hs46 : Same w4 w6 := hs5.trans hs6 (fun _ _ h => h)
  have HP6 := Lib.hid (Sl.same HP.out hs46)
  have HQ6 := Lib.hid (Sl.same HQ4.out hs46)
  have HS6 := Lib.hid (HS4.out.trans hs46 (fun _ _ h => h))
  clear hs46 hs5 hs6 HP HQ4 HS4
  go_wp2_with (fail)
  have c4 := changes_any 3 w6
  rw [show chL 3 = [1, 0, 1, 0, 1] by decide, show chE 3 = 0 by decide] at c4
  refine c4.mono ?_
  rintro e w7 ⟨A7, C7, rfl, hN7⟩
  clear c4
  have hs67 := hN7.2.2
  have HC7 := Lib.hid hN7.il
  have HP7 := Lib.hid (Sl.same HP6.out hs67)
  have HQ7 := Lib.hid (Sl.same HQ6.out hs67)
  have HS7 := Lib.hid (HS6.out.trans hs67 (fun _ _ h => h))
  clear hN7 hs67 HP6 HQ6 HS6
  go_wp2_with (fail)
  refine call_world fun w8 hw8 => ?_
  have hi8 := lit_il [1, 2, 0] (by decide) rfl hw8
  have hs8 : Same w7 w8 := by rw [hw8]; exact (Frm.refl _ _).alloc _
  clear hw8
  have c5 := same_any A2 _ 3 3 C2 3 [1, 2, 0] [1, 2, 0] w8 (Sl.same HQ7.out hs8) hi8 (by decide) (by decide)
  simp only [decide_true] at c5
  refine c5.mono ?_
  rintro e w9 ⟨rfl, hs9⟩
  clear c5 hi8
  have hs79 : Same w7 w9 := hs8.trans hs9 (fun _ _ h => h)
  have HC9 := Lib.hid (Sl.same HC7.out hs79)
  have HP9 := Lib.hid (Sl.same HP7.out hs79)
  have HS9 := Lib.hid (HS7.out.trans hs79 (fun _ _ h => h))
  clear hs79 hs8 hs9 HQ7 HC7 HP7 HS7
  go_wp2_with (fail)
  refine call_world fun wa hwa => ?_
  have hia := lit_il [1, 0, 1] (by decide) rfl hwa
  have hsa : Same w9 wa := by rw [hwa]; exact (Frm.refl _ _).alloc _
  clear hwa
  have c6 := same_any A4 _ 3 3 C4 3 [1, 0, 1] [1, 0, 1] wa (Sl.same HP9.out hsa) hia (by decide) (by decide)
  simp only [decide_true] at c6
  refine c6.mono ?_
  rintro e wb ⟨rfl, hsb⟩
  clear c6 hia
  have hs9b : Same w9 wb := hsa.trans hsb (fun _ _ h => h)
  have HCb := Lib.hid (Sl.same HC9.out hs9b)
  have HSb := Lib.hid (HS9.out.trans hs9b (fun _ _ h => h))
  clear hs9b hsa hsb HP9 HC9 HS9
  go_wp2_with (fail)
  refine call_world fun wc hwc => ?_
  have hic := lit_il [1, 0, 1, 0, 1] (by decide) rfl hwc
  have hsc : Same wb wc := by rw [hwc]; exact (Frm.refl _ _).alloc _
  clear hwc
  have c7 := same_any A7 _ 5 5 C7 5 [1, 0, 1, 0, 1] [1, 0, 1, 0, 1] wc (Sl.same HCb.out hsc) hic (by decide) (by decide)
  simp only [decide_true] at c7
  refine c7.mono ?_
  rintro e wd ⟨rfl, hsd⟩
  clear c7 hic
  have HSd := Lib.hid ((HSb.out.trans hsc (fun _ _ h => h)).trans hsd (fun _ _ h => h))
  clear hsc hsd HCb HSb
  go_wp2
  go_ret
  exact ⟨rfl, HSd.out⟩
end Go.Proofs.Ytibjpclmiaimaaa


/- PermTwos: its walk. -/
namespace Go.Proofs.Ytibjpclmiaimaaa
open Go.RowKit Go.Tk

theorem coL_le (p q : List Int) : (coL p q).length ≤ q.length := by unfold coL; split <;> simp [compL]
theorem paL_le (p q : List Int) : (paL p q).length ≤ 4096 := by
  unfold paL
  split
  · rename_i h
    obtain ⟨_, _, h1, h2⟩ := both_ok h
    exact pst_path64 h2 (by omega)
  · simp
abbrev intKs : List Leaf := [.int .i64]
theorem icell_of {w : World} (l : List Value) (h : CellsOk w intKs l) : ∃ x : Int, l = icell x := by
  simp only [CellsOk, CellOk] at h
  obtain ⟨v0, l0, rfl, ⟨n0, rfl, _⟩, rfl⟩ := h
  exact ⟨n0, rfl⟩
set_option maxHeartbeats 2000000 in
theorem twos_walk (A B : Option Addr) (n m C D : Nat) (xs ys : List Int) (w : World) (h : IL w A n xs) (h2 : IL w B m ys) (hr : n * 8 ≤ 140737488351232) (hr2 : m * 8 ≤ 140737488351232) :
    Calls Try.prog 3 #[.slice A n C, .slice B m D] w fun e w' => e = .returned (.bool true) ∧ Below w.heap.size w w' := by
  obtain rfl := h.len
  obtain rfl := h2.len
  have hco : (coL xs ys).length * 8 ≤ 140737488351232 := by have := coL_le xs ys; omega
  have hpa : (paL xs ys).length * 8 ≤ 140737488351232 := by have := paL_le xs ys; omega
  have HX := Lib.hid h
  have HY := Lib.hid h2
  clear h h2
  go_enter Try.func3, Try.ntmps3
  go_wp2_with (fail)
  refine (awake_any w).mono ?_
  rintro e w1 ⟨rfl, hs1⟩
  have HS2 := Lib.hid hs1
  clear hs1
  go_wp2_with (fail)
  refine (compose_any A B _ _ C D xs ys _ (Sl.same HX.out HS2.out) (Sl.same HY.out HS2.out) hr hr2).mono ?_
  rintro e w3 ⟨Aa, Ca, rfl, hN3⟩
  have hs3 := hN3.2.2
  have HS4 := Lib.hid ((HS2.out).trans hs3 (fun _ _ h => h))
  have HL4_a := Lib.hid hN3.il
  clear HS2 hs3
  clear hN3
  go_wp2_with (fail)
  refine (docCompose_any A B _ _ C D xs ys _ (Sl.same HX.out HS4.out) (Sl.same HY.out HS4.out) hr hr2).mono ?_
  rintro e w5 ⟨Ab, Cb, rfl, hN5⟩
  have hs5 := hN5.2.2
  have HL6_a := Lib.hid (Sl.same HL4_a.out hs5)
  have HS6 := Lib.hid ((HS4.out).trans hs5 (fun _ _ h => h))
  have HL6_b := Lib.hid hN5.il
  clear HL4_a HS4 hs5
  clear hN5
  go_wp2_with (fail)
  refine (path_any A B _ _ C D xs ys _ (Sl.same HX.out HS6.out) (Sl.same HY.out HS6.out) hr hr2).mono ?_
  rintro e w7 ⟨Ac, Cc, rfl, hN7⟩
  have hs7 := hN7.2.2
  have HL8_a := Lib.hid (Sl.same HL6_a.out hs7)
  have HL8_b := Lib.hid (Sl.same HL6_b.out hs7)
  have HS8 := Lib.hid ((HS6.out).trans hs7 (fun _ _ h => h))
  have HL8_c := Lib.hid hN7.il
  clear HL6_a HL6_b HS6 hs7
  clear hN7
  go_wp2_with (fail)
  refine (docPath_any A B _ _ C D xs ys _ (Sl.same HX.out HS8.out) (Sl.same HY.out HS8.out) hr hr2).mono ?_
  rintro e w9 ⟨Ad, Cd, rfl, hN9⟩
  have hs9 := hN9.2.2
  have HL10_a := Lib.hid (Sl.same HL8_a.out hs9)
  have HL10_b := Lib.hid (Sl.same HL8_b.out hs9)
  have HL10_c := Lib.hid (Sl.same HL8_c.out hs9)
  have HS10 := Lib.hid ((HS8.out).trans hs9 (fun _ _ h => h))
  have HL10_d := Lib.hid hN9.il
  clear HL8_a HL8_b HL8_c HS8 hs9
  clear hN9
  go_wp2_with (fail)
  refine (same_any Aa Ab _ _ Ca Cb _ _ _ HL10_a.out HL10_b.out hco hco).mono ?_
  rintro e w11 ⟨rfl, hs11⟩
  have HL12_a := Lib.hid (Sl.same HL10_a.out hs11)
  have HL12_b := Lib.hid (Sl.same HL10_b.out hs11)
  have HL12_c := Lib.hid (Sl.same HL10_c.out hs11)
  have HL12_d := Lib.hid (Sl.same HL10_d.out hs11)
  have HS12 := Lib.hid ((HS10.out).trans hs11 (fun _ _ h => h))
  clear HL10_a HL10_b HL10_c HL10_d HS10 hs11
  clear HL12_a
  clear HL12_b
  simp only [decide_true]
  go_wp2_with (fail)
  refine (same_any Ac Ad _ _ Cc Cd _ _ _ HL12_c.out HL12_d.out hpa hpa).mono ?_
  rintro e w13 ⟨rfl, hs13⟩
  have HL14_c := Lib.hid (Sl.same HL12_c.out hs13)
  have HL14_d := Lib.hid (Sl.same HL12_d.out hs13)
  have HS14 := Lib.hid ((HS12.out).trans hs13 (fun _ _ h => h))
  clear HL12_c HL12_d HS12 hs13
  clear HL14_c
  clear HL14_d
  simp only [decide_true]
  go_wp2
  go_ret
  exact ⟨rfl, HS14.out.to_below (Nat.le_refl _) (fun _ _ => id)⟩
end Go.Proofs.Ytibjpclmiaimaaa


/- The reference's Twin: a copy of a list. -/
namespace Go.Proofs.Ytibjpclmiaimaaa
open Go.RowKit Go.Tk

set_option maxHeartbeats 1000000 in
theorem twin_any (A : Option Addr) (n C : Nat) (xs : List Int) (w : World) (h : IL w A n xs) (hr : n * 8 ≤ 140737488351232) :
    Calls Try.prog 35 #[.slice A n C] w (RetL w xs) := by
  obtain rfl := h.len
  have hmk := fun w => run_make_n (P := Try.prog) Try.underlying22 info_int .i64 .i64 xs.length (show 8 * xs.length ≤ 281474976710656 by omega) (show xs.length ≤ 9223372036854775807 by omega) w
  have hO := Own.ofMade (m := 1) w 3 icell (fun _ => rfl) (by decide) 0 xs.length (show xs.length ≤ 9223372036854775807 by omega) rfl
  have H := Lib.hid h
  have HO := Lib.hid hO
  clear h hO
  go_enter Try.func35, Try.ntmps35
  go_upto_region 2 with fail
  refine wp_world fun wa hwa => ?_
  have hsa : Same w wa := by rw [hwa]; exact (Frm.refl _ _).alloc _
  have hOa := HO.out
  have hwa2 : wa = w.alloc (.cells (madeCells (icell 0).toArray (xs.length * 1)) 3) := by rw [hwa]; simp [icell]
  rw [← hwa2] at hOa
  clear hwa hwa2 hmk HO
  obtain ⟨w2, hr2, hO2, hw2⟩ := Own.copied (P := Try.prog) 22 22 3 Try.underlying22 (by kernel_rfl) hOa (Sl.same H.out hsa) (D := C) (Nat.le_refl _)
  have hs2 : Same w w2 := by rw [hw2]; exact Same.setRun _ _ hsa (Nat.le_refl _)
  have hO3 : OwnI w2 3 (some ⟨w.heap.size, 0, none⟩) xs.length xs.length xs := by simpa using hO2
  clear hO2 hw2 hOa
  have HO3 := Lib.hid hO3
  clear hO3
  refine wp_read 2 ?_
  simp only [List.take_succ_cons, List.take_zero, List.drop_succ_cons, List.drop_zero]
  repeat (any_goals (first | go_big_quiet_step (fail) | quiet_step (fail)))
  refine wpQuiet_nil ?_
  refine Lib.wpList_copy_run _ rfl _ _ _ _ rfl _ _ rfl rfl hr2 ?_
  clear hr2
  go_wp2
  go_ret
  exact ⟨some ⟨w.heap.size, 0, none⟩, xs.length, rfl, HO3.out, fresh_some (Nat.le_refl _), hs2⟩
end Go.Proofs.Ytibjpclmiaimaaa


/- Permutations: apart. -/
namespace Go.Proofs.Ytibjpclmiaimaaa
open Go.RowKit Go.Tk

/-- a slice of ints -/
structure Rw where
  A : Option Addr
  N : Nat
  C : Nat
def rcell (r : Rw) : List Value := [.slice r.A r.N r.C]
theorem rcell_len (r : Rw) : (rcell r).length = 1 := rfl
theorem info_sl : (Try.prog.info? 22).map (fun i => (i.zero, i.size, i.bytes)) = some (some (.slice none 0 0), 1, 24) := by kernel_rfl
abbrev OwnR (w : World) (A : Option Addr) (N C : Nat) (rs : List Rw) : Prop := Own w 22 1 rcell A N C rs
abbrev OwnN (w : World) (A : Option Addr) (N C : Nat) (xs : List Int) : Prop := Own w 3 1 icell A N C xs
def mkN (q i j : Nat) : Int := ((q * 100000 + i * 1000 + j * q : Nat) : Int)
def marks (q i n : Nat) : List Int := (List.range n).map (mkN q i)
theorem marks_len (q i n : Nat) : (marks q i n).length = n := by simp [marks]
theorem marks_get {q i n j : Nat} (h : j < n) : (marks q i n)[j]? = some (mkN q i j) := by simp [marks, h]
theorem marks_succ (q i n : Nat) : marks q i (n + 1) = marks q i n ++ [mkN q i n] := by simp [marks, List.range_succ]
theorem marks_add (q i n : Nat) : ∀ t, marks q i (n + t) = marks q i n ++ (List.range t).map (fun j => mkN q i (n + j))
  | 0 => by simp
  | t + 1 => by rw [← Nat.add_assoc, marks_succ, marks_add q i n t, List.range_succ, List.map_append, List.append_assoc]; rfl
theorem marks_step {q i n t : Nat} {xs : List Int} (hx : xs.length = n) (h : t < n) : ((marks q i n).take t ++ xs.drop t).set t (mkN q i t) = (marks q i n).take (t + 1) ++ xs.drop (t + 1) := by
  have hl : ((marks q i n).take t).length = t := by rw [List.length_take, marks_len]; omega
  rw [List.set_append_right _ _ (by omega), hl, Nat.sub_self, List.drop_eq_getElem_cons (by omega), List.set_cons_zero, List.take_add_one, marks_get h]
  simp
theorem Rw.at1 {w : World} {A : Option Addr} {m : Nat} {rs : List Rw} (h : Sl w 1 rcell A m rs) {i : Nat} {r : Rw} (hi : rs[i]? = some r) : ∃ b off, A = some ⟨b, off, none⟩ ∧ b < w.heap.size ∧ w.cell? ⟨b, off + i, none⟩ = some (.slice r.A r.N r.C) := by
  obtain ⟨b, off, h1, h2, h3⟩ := h.get i r hi
  refine ⟨b, off, h1, h2, ?_⟩
  have := h3 0 (by omega)
  simpa [rcell] using this
theorem Own.row {w : World} {e : TypeId} {m : Nat} {α : Type} {f : α → List Value} {A : Option Addr} {N C : Nat} {xs : List α} (h : Own w e m f A N C xs) : ∀ b, rowOf A b → b < w.heap.size := by
  rintro b ⟨a, ha, rfl⟩
  exact h.block a ha
theorem frm_own {S : Nat → Prop} {w w' : World} {e : TypeId} {m : Nat} {α : Type} {f : α → List Value} {A : Option Addr} {N C : Nat} {xs : List α} (h : Own w e m f A N C xs) (hf : Frm S w w') (hn : ∀ b, rowOf A b → ¬ S b) : Own w' e m f A N C xs :=
  Own.frm h hf (fun a ha => hn a.block ⟨a, ha, rfl⟩)
theorem rw_some {g : Nat} {b : Nat} : rowOf (some ⟨g, 0, none⟩) b ↔ b = g := ⟨fun ⟨a, ha, hb⟩ => by injection ha with ha; subst ha; exact hb.symm, fun h => ⟨_, rfl, h.symm⟩⟩
theorem rw_own {A : Option Addr} {N C b : Nat} (h : (Value.slice A N C).ownBlock = some b) : rowOf A b := ownBlock_row.1 h
theorem lt_get {α : Type} {xs : List α} {i : Nat} {x : α} (h : xs[i]? = some x) : i < xs.length := by
  rcases Nat.lt_or_ge i xs.length with hl | hl
  · exact hl
  · rw [List.getElem?_eq_none hl] at h; cases h
/-- behind some rows of the second loop -/
structure GI (q : Nat) (w : World) (rs : List Rw) (S : Nat → Prop) (wi : World) (gA : Option Addr) (gC : Nat) (gs : List Rw) : Prop where
  frm : Frm S w wi
  rows : ∀ (i : Nat) (r : Rw), rs[i]? = some r → OwnN wi r.A r.N r.C (marks q i r.N)
  grown : OwnR wi gA gs.length gC gs
  each : ∀ (i : Nat) (g r : Rw), gs[i]? = some g → rs[i]? = some r → g.N = r.N + 30 ∧ OwnN wi g.A g.N g.C (marks q i (r.N + 30)) ∧ ∀ b, rowOf g.A b → rowOf r.A b ∨ w.heap.size ≤ b
  apart : ∀ (i j : Nat) (g h : Rw), gs[i]? = some g → gs[j]? = some h → i ≠ j → ∀ b, rowOf g.A b → ¬ rowOf h.A b
  fresh : Fresh w.heap.size gA
/-- inside the growing of one -/
structure DI (q : Nat) (wk : World) (k : Nat) (r : Rw) (wi : World) (gA : Option Addr) (gN gC : Nat) : Prop where
  frm : Frm (fun b => rowOf r.A b) wk wi
  row : OwnN wi r.A r.N r.C (marks q k r.N)
  le : r.N ≤ gN
  g : OwnN wi gA gN gC (marks q k gN)
  at_ : (gA = r.A ∧ gC = r.C) ∨ Fresh wk.heap.size gA
theorem DI.start {q : Nat} {wk : World} {k : Nat} {r : Rw} (h : OwnN wk r.A r.N r.C (marks q k r.N)) : DI q wk k r wk r.A r.N r.C :=
  ⟨Frm.refl _ _, h, Nat.le_refl _, h, .inl ⟨rfl, rfl⟩⟩
theorem DI.stepG {q : Nat} {wk : World} {k : Nat} {r : Rw} {wi wa wb : World} {gA : Option Addr} {gN gC : Nat} {x C' : Nat} {ys : List Int} (h : DI q wk k r wi gA gN gC) (h0 : ∀ b, rowOf r.A b → b < wk.heap.size) (hs : Same wi wa)
    (hg : wa.grownBy wb (Value.slice gA gN gC).ownBlock) (ho : OwnN wb (some ⟨x, 0, none⟩) (gN + ys.length) C' (marks q k gN ++ ys)) (hy : marks q k gN ++ ys = marks q k (gN + ys.length)) (hat : (gA = some ⟨x, 0, none⟩ ∧ C' = gC) ∨ (x = wa.heap.size ∧ wa.grownBy wb none)) :
    DI q wk k r wb (some ⟨x, 0, none⟩) (gN + ys.length) C' := by
  have hsz := h.frm.size
  have hsz2 := hs.size
  have hra := Own.frm h.row hs (fun _ _ => id)
  have h1 : Frm (fun b => rowOf r.A b) wk wa := h.frm.trans hs (fun _ _ h => h.elim)
  have hle := h.le
  have hfr : Frm (fun b => rowOf r.A b) wk wb := h1.grown hg (fun g hg => by
    rcases h.at_ with ⟨h2, _⟩ | h2
    · exact .inl (h2 ▸ rw_own hg)
    · exact .inr (h2 g (rw_own hg)))
  rw [hy] at ho
  obtain ⟨d, hd⟩ : ∃ d, gN + ys.length = r.N + d := ⟨gN + ys.length - r.N, by omega⟩
  rcases hat with ⟨hA, hC⟩ | ⟨hx, hgn⟩
  · rcases h.at_ with ⟨h2, h3⟩ | h2
    · refine ⟨hfr, ?_, by omega, ho, .inl ⟨hA ▸ h2, hC.trans h3⟩⟩
      have hf := ho
      rw [hd, marks_add] at hf
      have := Own.front icell_len hf
      rw [marks_len] at this
      rw [← h2, hA, ← h3, ← hC]
      exact this
    · refine ⟨hfr, Own.keptBy hra hg (fun b hb hr => ?_), by omega, ho, .inr (hA ▸ h2)⟩
      have := h2 b (rw_own hb)
      have := h0 b hr
      omega
  · exact ⟨hfr, Own.keptBy hra hgn (fun b hb => by cases hb), by omega, ho, .inr (fresh_some (by omega))⟩
theorem GI.grownAt {q : Nat} {w : World} {rs : List Rw} {S : Nat → Prop} {wk wi wa : World} {gA : Option Addr} {gC : Nat} {gs : List Rw} {r : Rw} {hA : Option Addr} {gN hC : Nat} (h : GI q w rs S wk gA gC gs) (hr : rs[gs.length]? = some r)
    (hSr : ∀ (i : Nat) (r : Rw), rs[i]? = some r → ∀ b, rowOf r.A b → S b) (hSw : ∀ b, S b → b < w.heap.size)
    (hd : DI q wk gs.length r wi hA gN hC) (hs : Same wi wa) : OwnR wa gA gs.length gC gs :=
  frm_own h.grown (hd.frm.trans hs (fun _ _ h => h.elim)) (fun b hb hrb => by have := h.fresh b hb; have := hSw b (hSr _ _ hr b hrb); omega)
theorem GI.next {q : Nat} {w : World} {rs : List Rw} {S : Nat → Prop} {wk wi wa wj : World} {gA : Option Addr} {gC : Nat} {gs : List Rw} {r : Rw} {hA : Option Addr} {hC : Nat} {x C' : Nat} (h : GI q w rs S wk gA gC gs) (hr : rs[gs.length]? = some r)
    (hD : ∀ (i j : Nat) (r s : Rw), rs[i]? = some r → rs[j]? = some s → i ≠ j → ∀ b, rowOf r.A b → ¬ rowOf s.A b) (hSr : ∀ (i : Nat) (r : Rw), rs[i]? = some r → ∀ b, rowOf r.A b → S b) (hSw : ∀ b, S b → b < w.heap.size)
    (hd : DI q wk gs.length r wi hA (r.N + 30) hC) (hs : Same wi wa) (hg : wa.grownBy wj (Value.slice gA gs.length gC).ownBlock)
    (ho : OwnR wj (some ⟨x, 0, none⟩) (gs.length + 1) C' (gs ++ [⟨hA, r.N + 30, hC⟩])) (hat : (gA = some ⟨x, 0, none⟩ ∧ C' = gC) ∨ (x = wa.heap.size ∧ wa.grownBy wj none)) :
    GI q w rs S wj (some ⟨x, 0, none⟩) C' (gs ++ [⟨hA, r.N + 30, hC⟩]) := by
  have s1 := h.frm.size
  have s2 := hd.frm.size
  have s3 := hs.size
  have hrw : ∀ b, rowOf r.A b → b < w.heap.size := fun b hb => hSw b (hSr _ _ hr b hb)
  have hfa : Frm (fun b => rowOf r.A b) wk wa := hd.frm.trans hs (fun _ _ h => h.elim)
  have hga : OwnR wa gA gs.length gC gs := frm_own h.grown hfa (fun b hb hrb => by have := h.fresh b hb; have := hrw b hrb; omega)
  have kp : ∀ {A : Option Addr} {N C : Nat} {xs : List Int}, OwnN wa A N C xs → OwnN wj A N C xs := fun ho => Own.keptBy ho hg (fun b hb hA => Own.ne_own ho hga (by decide) b hA (rw_own hb))
  have hrow : ∀ (i : Nat) (s : Rw), rs[i]? = some s → OwnN wa s.A s.N s.C (marks q i s.N) := fun i s hi => by
    by_cases hik : i = gs.length
    · subst hik
      obtain rfl := Option.some.inj (hr.symm.trans hi)
      exact Own.frm hd.row hs (fun _ _ => id)
    · exact frm_own (h.rows i s hi) hfa (fun b hb hb2 => hD _ _ _ _ hi hr hik b hb hb2)
  have hxf : w.heap.size ≤ x := by
    rcases hat with ⟨h2, _⟩ | ⟨h2, _⟩
    · exact h.fresh x ⟨_, h2, rfl⟩
    · omega
  have hold : ∀ (i : Nat) (g s : Rw), gs[i]? = some g → rs[i]? = some s → OwnN wa g.A g.N g.C (marks q i (s.N + 30)) := fun i g s hi hsi => by
    obtain ⟨_, e2, e3⟩ := h.each i g s hi hsi
    refine frm_own e2 hfa (fun b hb hb2 => ?_)
    rcases e3 b hb with h4 | h4
    · exact hD _ _ _ _ hsi hr (by have := lt_get hi; omega) b h4 hb2
    · have := hrw b hb2; omega
  have hnew : ∀ (i : Nat) (g s : Rw), gs[i]? = some g → rs[i]? = some s → ∀ b, rowOf g.A b → ¬ rowOf hA b := fun i g s hi hsi b hb hb2 => by
    obtain ⟨_, e2, e3⟩ := h.each i g s hi hsi
    rcases hd.at_ with ⟨h2, _⟩ | h2
    · rw [h2] at hb2
      rcases e3 b hb with h4 | h4
      · exact hD _ _ _ _ hsi hr (by have := lt_get hi; omega) b h4 hb2
      · have := hrw b hb2; omega
    · have := h2 b hb2
      have := Own.row e2 b hb
      omega
  have hpt : ∀ (i : Nat) (g : Rw), (gs ++ [(⟨hA, r.N + 30, hC⟩ : Rw)])[i]? = some g → (gs[i]? = some g ∧ i < gs.length) ∨ (i = gs.length ∧ g = ⟨hA, r.N + 30, hC⟩) := fun i g hi => by
    by_cases hl : i < gs.length
    · rw [List.getElem?_append_left hl] at hi; exact .inl ⟨hi, hl⟩
    · rw [List.getElem?_append_right (by omega)] at hi
      have h0 : i - gs.length = 0 := by
        have := lt_get hi
        simp at this
        omega
      rw [h0] at hi
      exact .inr ⟨by omega, (Option.some.inj hi).symm⟩
  have hsome : ∀ i, i < gs.length → ∃ s, rs[i]? = some s := fun i hi => ⟨_, List.getElem?_eq_getElem (by have := lt_get hr; omega)⟩
  refine ⟨?_, fun i s hi => kp (hrow i s hi), ?_, ?_, ?_, fresh_some hxf⟩
  · refine (h.frm.trans hfa (fun i _ hi => hSr _ _ hr i hi)).grown hg (fun g hg => .inr (h.fresh g (rw_own hg)))
  · simpa using ho
  · intro i g s hi hsi
    rcases hpt i g hi with ⟨h1, _⟩ | ⟨rfl, rfl⟩
    · obtain ⟨e1, e2, e3⟩ := h.each i g s h1 hsi
      exact ⟨e1, kp (hold i g s h1 hsi), e3⟩
    · obtain rfl := Option.some.inj (hr.symm.trans hsi)
      refine ⟨rfl, kp (Own.frm hd.g hs (fun _ _ => id)), fun b hb => ?_⟩
      rcases hd.at_ with ⟨h2, _⟩ | h2
      · exact .inl (h2 ▸ hb)
      · have := h2 b hb; exact .inr (by omega)
  · intro i j g g' hi hj hij b hb hb2
    rcases hpt i g hi with ⟨h1, l1⟩ | ⟨rfl, rfl⟩
    · rcases hpt j g' hj with ⟨h2, l2⟩ | ⟨rfl, rfl⟩
      · exact h.apart i j g g' h1 h2 hij b hb hb2
      · obtain ⟨s, hs⟩ := hsome i l1
        exact hnew i g s h1 hs b hb hb2
    · rcases hpt j g' hj with ⟨h2, l2⟩ | ⟨rfl, rfl⟩
      · obtain ⟨s, hs⟩ := hsome j l2
        exact hnew j g' s h2 hs b hb2 hb
      · exact hij rfl
theorem mk_facts (q k t : Nat) (hq : q ≤ 2) (hk : k ≤ 1000) (ht : t ≤ 4611686018427387) : IntKind.i64.wrap ((q : Int) * 100000) = (q : Int) * 100000 ∧ IntKind.i64.wrap ((k : Int) * 1000) = (k : Int) * 1000 ∧ IntKind.i64.wrap ((q : Int) * 100000 + (k : Int) * 1000) = (q : Int) * 100000 + (k : Int) * 1000 ∧ IntKind.i64.wrap ((t : Int) * (q : Int)) = (t : Int) * (q : Int) ∧ IntKind.i64.wrap ((q : Int) * 100000 + (k : Int) * 1000 + (t : Int) * (q : Int)) = mkN q k t := by
  have hm : mkN q k t = (q : Int) * 100000 + (k : Int) * 1000 + (t : Int) * (q : Int) := by
    unfold mkN
    rw [Int.natCast_add, Int.natCast_add, Int.natCast_mul, Int.natCast_mul, Int.natCast_mul]
    rfl
  have h1 : t * q ≤ t * 2 := Nat.mul_le_mul_left t hq
  have h2 : (t : Int) * (q : Int) = ((t * q : Nat) : Int) := (Int.natCast_mul t q).symm
  rw [hm, h2]
  generalize t * q = z at *
  exact ⟨IntWalk.i64_in _ (by omega), IntWalk.i64_in _ (by omega), IntWalk.i64_in _ (by omega), IntWalk.i64_in _ (by omega), IntWalk.i64_in _ (by omega)⟩
set_option maxRecDepth 100000 in
set_option maxHeartbeats 16000000 in
theorem apart_any (AL : Option Addr) (m CL : Nat) (rs : List Rw) (w : World) (hL : Sl w 1 rcell AL m rs) (hm : m ≤ 500) (hO : ∀ (i : Nat) (r : Rw), rs[i]? = some r → ∃ xs, OwnN w r.A r.N r.C xs)
    (hD : ∀ (i j : Nat) (r s : Rw), rs[i]? = some r → rs[j]? = some s → i ≠ j → ∀ b, rowOf r.A b → ¬ rowOf s.A b) (hLr : ∀ b, rowOf AL b → ∀ (i : Nat) (r : Rw), rs[i]? = some r → ¬ rowOf r.A b) (hN : ∀ (i : Nat) (r : Rw), rs[i]? = some r → r.N * 8 ≤ 140737488354000) :
    Calls Try.prog 38 #[.slice AL m CL] w fun e w' => e = .returned (.bool true) ∧ Frm (fun b => ∃ (i : Nat) (r : Rw), rs[i]? = some r ∧ rowOf r.A b) w w' := by
  obtain ⟨S, hSdef⟩ : ∃ S : Nat → Prop, (fun b => ∃ (i : Nat) (r : Rw), rs[i]? = some r ∧ rowOf r.A b) = S := ⟨_, rfl⟩
  have hS1 : ∀ (i : Nat) (r : Rw), rs[i]? = some r → ∀ b, rowOf r.A b → S b := fun i r hi b hb => by rw [← hSdef]; exact ⟨i, r, hi, hb⟩
  have hSL : ∀ b, rowOf AL b → ¬ S b := fun b hb hs => by rw [← hSdef] at hs; obtain ⟨i, r, hi, hr⟩ := hs; exact hLr b hb i r hi hr
  have hSw : ∀ b, S b → b < w.heap.size := fun b hs => by
    rw [← hSdef] at hs
    obtain ⟨i, r, hi, hr⟩ := hs
    obtain ⟨xs, ho⟩ := hO i r hi
    exact Own.row ho b hr
  rw [hSdef]
  have hml := hL.len
  have HS1 := Lib.hid hS1
  have HSL := Lib.hid hSL
  have HSW := Lib.hid hSw
  have HLL := Lib.hid hL
  have HD := Lib.hid hD
  have HN := Lib.hid hN
  have HO := Lib.hid hO
  have HML := Lib.hid hml
  clear hS1 hSL hSw hSdef hLr hD hN hO hL hml
  go_enter Try.func38, Try.ntmps38
  go_wp2
  go_loopw [3] (fun q wi => ∃ t0 : Nat, 1 ≤ t0 ∧ t0 ≤ 3 ∧ q = .int .i64 t0 ∧ Frm S w wi ∧ ∀ (i : Nat) (r : Rw), rs[i]? = some r → ∃ xs, OwnN wi r.A r.N r.C xs) (fun q _ => 3 - (intOf q).toNat)
  case atStart => exact ⟨1, by omega, by omega, rfl, Frm.refl _ _, HO.out⟩
  case round =>
    clear HO
    obtain ⟨t0, ht1, ht3, rfl, hf, hall⟩ := hrel
    by_cases hlt0 : t0 < 3
    · have hq2 : (t0 : Int) ≤ 2 := by omega
      have HF0 := Lib.hid hf
      have HA0 := Lib.hid hall
      clear hf hall
      go_wp2
      go_loopw [4] (fun i wr => ∃ k : Nat, k ≤ m ∧ i = .int .i64 k ∧ Frm S w wr ∧ ∀ (i : Nat) (r : Rw), rs[i]? = some r → ∃ xs, OwnN wr r.A r.N r.C xs ∧ (i < k → xs = marks t0 i r.N)) (fun i _ => m - (intOf i).toNat)
      case atStart => exact ⟨0, by omega, rfl, HF0.out, fun i r hi => by obtain ⟨xs, ho⟩ := HA0.out i r hi; exact ⟨xs, ho, fun h => by omega⟩⟩
      case round =>
        clear HF0 HA0
        obtain ⟨k, hk, rfl, hf, hall⟩ := hrel
        have HF := Lib.hid hf
        have HALL := Lib.hid hall
        clear hf hall
        by_cases hlt : k < m
        · obtain ⟨r, hr⟩ : ∃ r, rs[k]? = some r := ⟨_, List.getElem?_eq_getElem (by rw [← HML.out]; exact hlt)⟩
          obtain ⟨bL, oL, hAL, hbL, hcL⟩ := Rw.at1 HLL.out hr
          subst hAL
          have HCW := Lib.hid (show wr.cell? ⟨bL, oL + k, none⟩ = some (.slice r.A r.N r.C) from (HF.out.cell (p := ⟨bL, oL + k, none⟩) hbL (HSL.out bL ⟨_, rfl, rfl⟩)).trans hcL)
          have hlw := Nat.lt_of_lt_of_le hbL HF.out.size
          have hk0 : (0 : Int) ≤ k := by omega
          have hk1 : (k : Int) < m := by omega
          obtain ⟨xs, hox, _⟩ := HALL.out k r hr
          have hxl := hox.len
          have hNr := HN.out k r hr
          have HX := Lib.hid hox
          have HXL := Lib.hid hxl
          have HR := Lib.hid hr
          have HBL := Lib.hid (show ¬ rowOf r.A bL from fun h => HSL.out bL ⟨_, rfl, rfl⟩ (HS1.out k r hr bL h))
          obtain ⟨wo, rfl⟩ : ∃ z, z = wr := ⟨_, rfl⟩
          clear hcL hbL hox hxl hr
          obtain ⟨rA, rN, rC⟩ := r
          simp only at HX HXL hNr HCW HBL
          go_wp2
          go_loopw [5] (fun j wi => ∃ t : Nat, t ≤ rN ∧ j = .int .i64 t ∧ Frm (fun b => rowOf rA b) wo wi ∧ OwnN wi rA rN rC ((marks t0 k rN).take t ++ xs.drop t)) (fun j _ => rN - (intOf j).toNat)
          case atStart => exact ⟨0, by omega, rfl, Frm.refl _ _, by simpa using HX.out⟩
          case round =>
            obtain ⟨t, ht, rfl, hf, ho⟩ := hrel
            have HFI := Lib.hid hf
            have hcw : wr.cell? ⟨bL, oL + k, none⟩ = some (.slice rA rN rC) := (hf.cell (p := ⟨bL, oL + k, none⟩) hlw HBL.out).trans HCW.out
            have hlw2 := Nat.lt_of_lt_of_le hlw hf.size
            have hsd : ((marks t0 k rN).take t ++ xs.drop t).length = rN := ho.len.symm
            by_cases hlt2 : t < rN
            · obtain ⟨y, hy⟩ : ∃ y, ((marks t0 k rN).take t ++ xs.drop t)[t]? = some y := ⟨_, List.getElem?_eq_getElem (by omega)⟩
              obtain ⟨sb, hA, hsl, hsc⟩ := Own.at1 (c := fun x : Int => .int .i64 x) ho hy
              subst hA
              have hfr := Own.free ho t
              have hp := Own.put1 (c := fun x : Int => .int .i64 x) ho (i := t) (by omega) (mkN t0 k t)
              rw [marks_step HXL.out.symm hlt2] at hp
              have HP := Lib.hid hp
              have ht0 : (0 : Int) ≤ t := by omega
              have ht1 : (t : Int) < rN := by omega
              obtain ⟨e1, e2, e3, e4, e5⟩ := mk_facts t0 k t (by omega) (by omega) (by omega)
              clear hf ho hsd hy hp
              go_wp2
              go_roundw
              case rel => exact ⟨t + 1, by omega, by go_num, HFI.out.set t _ (rw_some.2 rfl), HP.out⟩
              case measure => simp [intOf] <;> omega
            · obtain rfl : t = rN := by omega
              have hfull := ho
              rw [List.take_of_length_le (by rw [marks_len]; exact Nat.le_refl _), List.drop_of_length_le (by rw [← HXL.out]; exact Nat.le_refl _), List.append_nil] at hfull
              have HFU := Lib.hid hfull
              clear hf ho hsd hfull
              go_wp2
              go_roundw
              case rel =>
                refine ⟨k + 1, by omega, by go_num, HF.out.trans HFI.out (fun i _ hi => HS1.out k _ HR.out i hi), fun i s hi => ?_⟩
                by_cases hik : i = k
                · subst hik
                  obtain rfl := Option.some.inj (HR.out.symm.trans hi)
                  exact ⟨_, HFU.out, fun _ => rfl⟩
                · obtain ⟨ys, h1, h2⟩ := HALL.out i s hi
                  exact ⟨ys, frm_own h1 HFI.out (fun b hb hb2 => HD.out i k _ _ hi HR.out hik b hb hb2), fun h => h2 (by omega)⟩
              case measure => simp [intOf] <;> omega
        · obtain rfl : k = m := by omega
          have hall2 : ∀ (i : Nat) (r : Rw), rs[i]? = some r → OwnN wr r.A r.N r.C (marks t0 i r.N) := fun i r hi => by
            obtain ⟨xs, h1, h2⟩ := HALL.out i r hi
            have hil : i < k := by rw [HML.out]; exact lt_get hi
            rw [h2 hil] at h1
            exact h1
          have HGI := Lib.hid (show GI t0 w rs S wr none 0 [] from ⟨HF.out, hall2, Own.nil _ _ _ _, fun i g r hi => by simp at hi, fun i j g h hi => by simp at hi, fresh_none _⟩)
          clear hall2 HF HALL
          go_wp2
          obtain ⟨wo, rfl⟩ : ∃ z, z = wr := ⟨_, rfl⟩
          go_loopw [6, 7] (fun s i wi => ∃ (gs : List Rw) (gA : Option Addr) (gC : Nat), gs.length ≤ k ∧ i = .int .i64 gs.length ∧ s = .slice gA gs.length gC ∧ GI t0 w rs S wi gA gC gs) (fun _ i _ => k - (intOf i).toNat)
          case atStart => exact ⟨[], none, 0, by simp, rfl, rfl, HGI.out⟩
          case round =>
            obtain ⟨gs, gA, gC, hgl, rfl, rfl, hgi⟩ := hrel
            clear HGI
            by_cases hlt2 : gs.length < k
            · obtain ⟨r, hr⟩ : ∃ r, rs[gs.length]? = some r := ⟨_, List.getElem?_eq_getElem (by rw [← HML.out]; exact hlt2)⟩
              obtain ⟨bL, oL, hAL, hbL, hcL⟩ := Rw.at1 HLL.out hr
              subst hAL
              have hcw : wr.cell? ⟨bL, oL + gs.length, none⟩ = some (.slice r.A r.N r.C) := (hgi.frm.cell (p := ⟨bL, oL + gs.length, none⟩) hbL (HSL.out bL ⟨_, rfl, rfl⟩)).trans hcL
              have hlw := Nat.lt_of_lt_of_le hbL hgi.frm.size
              have hk0 : (0 : Int) ≤ gs.length := by omega
              have hk1 : (gs.length : Int) < k := by omega
              have hro := hgi.rows gs.length r hr
              have hNr := HN.out gs.length r hr
              have H0R := Lib.hid (Own.row hro)
              have HDI := Lib.hid (DI.start hro)
              have HGI := Lib.hid hgi
              have HR := Lib.hid hr
              have HBL := Lib.hid (show ¬ rowOf r.A bL from fun h => HSL.out bL ⟨_, rfl, rfl⟩ (HS1.out _ r hr bL h))
              clear hcL hbL hro hgi hr
              obtain ⟨rA, rN, rC⟩ := r
              simp only at hNr hcw HBL
              obtain ⟨wk, rfl⟩ : ∃ z, z = wr := ⟨_, rfl⟩
              go_wp2
              have HCW := Lib.hid hcw
              have HLW := Lib.hid hlw
              clear hcw hlw
              go_loopw [8, 9] (fun g j wi => ∃ (t : Nat) (hA : Option Addr) (hC gN : Nat), t ≤ 30 ∧ gN = rN + t ∧ j = .int .i64 t ∧ g = .slice hA gN hC ∧ DI t0 wk gs.length ⟨rA, rN, rC⟩ wi hA gN hC) (fun _ j _ => 30 - (intOf j).toNat)
              case atStart => exact ⟨0, rA, rC, rN, by omega, rfl, rfl, rfl, HDI.out⟩
              case round =>
                clear HDI
                obtain ⟨t, hA, hC, gN, ht, hgN, rfl, rfl, hdi⟩ := hrel
                subst hgN
                have HDI := Lib.hid hdi
                clear hdi
                by_cases hlt3 : t < 30
                · have ht0 : (0 : Int) ≤ t := by omega
                  have ht1 : (t : Int) < 30 := by omega
                  have hcw : wr.cell? ⟨bL, oL + gs.length, none⟩ = some (.slice rA rN rC) := (HDI.out.frm.cell (p := ⟨bL, oL + gs.length, none⟩) HLW.out HBL.out).trans HCW.out
                  have hlw2 := Nat.lt_of_lt_of_le HLW.out HDI.out.frm.size
                  have hwr1 : IntKind.i64.wrap ((rN : Int) + (t : Int)) = (rN : Int) + (t : Int) := IntWalk.i64_in _ (by omega)
                  obtain ⟨e1, e2, e3, e4, e5⟩ := mk_facts t0 gs.length (rN + t) (by omega) (by omega) (by omega)
                  rw [Int.natCast_add] at e4 e5
                  go_upto_region 19 with fail
                  refine wp_region_lit ?_
                  refine wpList_read 16 ?_
                  simp only [List.take_succ_cons, List.take_zero, List.drop_succ_cons, List.drop_zero]
                  repeat (any_goals (first | go_big_quiet_step (fail) | quiet_step (fail)))
                  refine wpQuiet_nil ?_
                  refine wpList_plain rfl fun K hK => ?_
                  go_simp
                  refine hK _ _ ?_
                  clear hK K
                  refine list_world fun wc hwc => ?_
                  have hsc : Same wr wc := by rw [hwc]; exact (Frm.refl _ _).alloc _
                  have hNc := Blk.new wr 3 #[.int .i64 (mkN t0 gs.length (rN + t))]
                  rw [← hwc] at hNc
                  clear hwc
                  refine wpList_plain rfl fun K hK => ?_
                  refine Own.grow (f := icell) (.tmp 61) (.tmp 77) _ rfl Try.underlying22 info_int rfl rfl (Own.frm HDI.out.g hsc (fun _ _ => id)) icell_len [mkN t0 gs.length (rN + t)] (by simp) ⟨wr.heap.size, 0, none⟩ 1 rfl (fun j u hj => news_of_blk hNc j u hj) (by simp [icell, Value.oneCell']) (by simp [maxLen] <;> omega) (by simp <;> omega) ?_
                  intro x C' wd hOd _ hgr hat
                  refine hK _ _ ?_
                  clear hK K
                  have HD3 := Lib.hid (DI.stepG HDI.out H0R.out hsc hgr hOd (marks_succ _ _ _).symm hat)
                  clear hgr hOd hat hNc hsc HDI e1 e2 e3 e4 e5 hwr1 hcw hlw2
                  obtain ⟨wq, rfl⟩ : ∃ z, z = wr := ⟨_, rfl⟩
                  obtain ⟨wr, rfl⟩ : ∃ z, z = wd := ⟨_, rfl⟩
                  go_wp2
                  go_roundw
                  case rel => exact ⟨t + 1, _, _, rN + (t + 1), by omega, rfl, by go_num, rfl, HD3.out⟩
                  case measure => simp [intOf] <;> omega
                · obtain rfl : t = 30 := by omega
                  have HGA := Lib.hid (fun (wa : World) (hs : Same wr wa) => GI.grownAt HGI.out HR.out HS1.out HSW.out HDI.out hs)
                  go_upto_region 20 with fail
                  refine wp_region_lit ?_
                  refine wpList_read 2 ?_
                  simp only [List.take_succ_cons, List.take_zero, List.drop_succ_cons, List.drop_zero]
                  repeat (any_goals (first | go_big_quiet_step (fail) | quiet_step (fail)))
                  refine wpQuiet_nil ?_
                  refine wpList_plain rfl fun K hK => ?_
                  go_simp
                  refine hK _ _ ?_
                  clear hK K
                  refine list_world fun wc hwc => ?_
                  have hsc : Same wr wc := by rw [hwc]; exact (Frm.refl _ _).alloc _
                  have hNc := Blk.new wr 22 #[.slice hA (rN + 30) hC]
                  rw [← hwc] at hNc
                  clear hwc
                  refine wpList_plain rfl fun K hK => ?_
                  refine Own.grow (f := rcell) (.tmp 79) (.tmp 81) _ rfl Try.underlying55 info_sl rfl rfl (HGA.out wc hsc) rcell_len [⟨hA, rN + 30, hC⟩] (by simp) ⟨wr.heap.size, 0, none⟩ 1 rfl (fun j u hj => news_of_blk hNc j u hj) (by simp [rcell, Value.oneCell']) (by simp [maxLen] <;> omega) (by simp <;> omega) ?_
                  intro y C' wd hOd _ hgr hat
                  refine hK _ _ ?_
                  clear hK K
                  have hnx := GI.next HGI.out HR.out HD.out HS1.out HSW.out HDI.out hsc hgr hOd hat
                  have HNX := Lib.hid hnx
                  clear hgr hOd hat hNc hsc HGA HDI HGI hnx
                  go_wp2
                  go_roundw
                  case rel => exact ⟨gs ++ [⟨hA, rN + 30, hC⟩], some ⟨y, 0, none⟩, C', by simp only [List.length_append, List.length_cons, List.length_nil]; omega, by rw [List.length_append]; go_num, by simp, HNX.out⟩
                  case measure => simp [intOf] <;> omega
            · obtain rfl : gs.length = k := by omega
              have HGI := Lib.hid hgi
              clear hgi
              go_wp2
              go_loopw [10] (fun q wi => ∃ i : Nat, i ≤ gs.length ∧ q = .int .i64 i ∧ wi = wr) (fun q _ => gs.length - (intOf q).toNat)
              case atStart => exact ⟨0, by omega, rfl, rfl⟩
              case round =>
                obtain ⟨i, hi, rfl, rfl⟩ := hrel
                by_cases hil : i < gs.length
                · obtain ⟨g, hg⟩ : ∃ g, gs[i]? = some g := ⟨_, List.getElem?_eq_getElem hil⟩
                  obtain ⟨r, hr⟩ : ∃ r, rs[i]? = some r := ⟨_, List.getElem?_eq_getElem (by rw [← HML.out]; exact hil)⟩
                  obtain ⟨bG, oG, hAG, hbG, hcG⟩ := Rw.at1 (HGI.out.grown.sl rcell_len) hg
                  obtain ⟨bL, oL, hAL, hbL, hcL⟩ := Rw.at1 HLL.out hr
                  subst hAG hAL
                  have hcw : wr.cell? ⟨bL, oL + i, none⟩ = some (.slice r.A r.N r.C) := (HGI.out.frm.cell (p := ⟨bL, oL + i, none⟩) hbL (HSL.out bL ⟨_, rfl, rfl⟩)).trans hcL
                  have hlw := Nat.lt_of_lt_of_le hbL HGI.out.frm.size
                  obtain ⟨e1, e2, _⟩ := HGI.out.each i g r hg hr
                  have hNr := HN.out i r hr
                  have E2 := Lib.hid e2
                  have hro := HGI.out.rows i r hr
                  have HRO := Lib.hid hro
                  have hi0 : (0 : Int) ≤ i := by omega
                  have hi1 : (i : Int) < gs.length := by omega
                  clear hg hr e2 hro hcL hbL
                  obtain ⟨rA, rN, rC⟩ := r
                  obtain ⟨gA1, gN1, gC1⟩ := g
                  simp only at hcw hcG e1 E2 HRO hNr
                  subst e1
                  go_wp2
                  obtain ⟨wz, rfl⟩ : ∃ z, z = wr := ⟨_, rfl⟩
                  go_loopw [11] (fun q wi => ∃ j : Nat, j ≤ rN + 30 ∧ q = .int .i64 j ∧ wi = wz) (fun q _ => rN + 30 - (intOf q).toNat)
                  case atStart => exact ⟨0, by omega, rfl, rfl⟩
                  case round =>
                    obtain ⟨j, hj, rfl, hwz⟩ := hrel
                    subst hwz
                    by_cases hjl : j < rN + 30
                    · have hj0 : (0 : Int) ≤ j := by omega
                      have hj1 : (j : Int) < (rN : Int) + 30 := by omega
                      obtain ⟨e1, e2, e3, e4, e5⟩ := mk_facts t0 i j (by omega) (by omega) (by omega)
                      obtain ⟨bg, hA1, hb1, hc1⟩ := Own.at1 (c := fun x : Int => .int .i64 x) E2.out (marks_get hjl)
                      subst hA1
                      by_cases hjr : j < rN
                      · have hjr1 : (j : Int) < rN := by omega
                        obtain ⟨bq, hA2, hb2, hc2⟩ := Own.at1 (c := fun x : Int => .int .i64 x) HRO.out (marks_get hjr)
                        subst hA2
                        go_wp2
                        go_roundw
                        case rel => exact ⟨j + 1, by omega, by go_num, by trivial⟩
                        case measure => simp [intOf] <;> omega
                      · have hjr1 : ¬ (j : Int) < rN := by omega
                        go_wp2
                        go_roundw
                        case rel => exact ⟨j + 1, by omega, by go_num, by trivial⟩
                        case measure => simp [intOf] <;> omega
                    · obtain rfl : j = rN + 30 := by omega
                      go_wp2
                      go_roundw
                      case rel => exact ⟨i + 1, by omega, by go_num, by trivial⟩
                      case measure => simp [intOf] <;> omega
                · obtain rfl : i = gs.length := by omega
                  go_wp2
                  go_roundw
                  case rel => exact ⟨t0 + 1, by omega, by omega, by go_num, HGI.out.frm, fun i r hi => ⟨_, HGI.out.rows i r hi⟩⟩
                  case measure => simp [intOf] <;> omega
    · obtain rfl : t0 = 3 := by omega
      go_wp2
      go_ret
      exact ⟨rfl, hf⟩
end Go.Proofs.Ytibjpclmiaimaaa


/- Permutations: spare, kept, over; Same of equal lists. -/
namespace Go.Proofs.Ytibjpclmiaimaaa
open Go.RowKit Go.Tk

set_option maxHeartbeats 4000000 in
theorem same_eq (A B : Option Addr) (n C D : Nat) (xs : List Int) (w : World) (h : IL w A n xs) (h2 : IL w B n xs) (hr : n ≤ 1000000000000000000) :
    Calls Try.prog 17 #[.slice A n C, .slice B n D] w fun e w' => e = .returned (.bool true) ∧ Same w w' := by
  obtain rfl := h.len
  have H := Lib.hid h
  have H2 := Lib.hid h2
  clear h h2
  go_enter Try.func17, Try.ntmps17
  go_wp2
  go_loopw [5] (fun i wr => ∃ k : Nat, k ≤ xs.length ∧ i = .int .i64 k ∧ Same w wr) (fun i _ => xs.length - (intOf i).toNat)
  case atStart => exact ⟨0, by omega, rfl, Frm.refl _ _⟩
  case round =>
    obtain ⟨k, hk, rfl, hs⟩ := hrel
    by_cases hlt : k < xs.length
    · obtain ⟨x, hx⟩ : ∃ x, xs[k]? = some x := ⟨_, List.getElem?_eq_getElem hlt⟩
      obtain ⟨b, off, rfl, hb, hc⟩ := (Sl.same H.out hs).at1 hx
      obtain ⟨b2, off2, rfl, hb2, hc2⟩ := (Sl.same H2.out hs).at1 hx
      have hi0 : (0 : Int) ≤ k := by omega
      have hi1 : (k : Int) < xs.length := by omega
      have HS := Lib.hid hs
      clear hx hs
      go_wp2
      refine wp_quiet (by kernel_rfl) (by kernel_rfl) ?_
      repeat (any_goals (first | go_big_quiet_step (fail) | quiet_step (fail)))
      refine wpQuiet_nil ?_
      rintro _ ⟨q, rfl⟩
      have HS2 := Lib.hid (HS.out.trans (more_same _ q) (fun _ _ h => h))
      go_wp2
      go_roundw
      case rel => exact ⟨k + 1, by omega, by go_num, HS2.out⟩
      case measure => simp [intOf] <;> omega
    · obtain rfl : k = xs.length := by omega
      go_wp2
      go_ret
      exact ⟨rfl, hs⟩
def spv (t : Nat) : Int := ((1000 + t * t : Nat) : Int)
def spn (j : Nat) : List Int := (List.range j).map spv
theorem spn_succ (j : Nat) : spn (j + 1) = spn j ++ [spv j] := by simp [spn, List.range_succ]
theorem spn_len (j : Nat) : (spn j).length = j := by simp [spn]
theorem sp_facts (t : Nat) (ht : t ≤ 1000) : IntKind.i64.wrap ((t : Int) * (t : Int)) = (t : Int) * (t : Int) ∧ IntKind.i64.wrap (1000 + (t : Int) * (t : Int)) = spv t := by
  have hm : spv t = 1000 + (t : Int) * (t : Int) := by
    unfold spv
    rw [Int.natCast_add, Int.natCast_mul]
    rfl
  have h1 : t * t ≤ 1000 * 1000 := Nat.mul_le_mul ht ht
  have h2 : (t : Int) * (t : Int) = ((t * t : Nat) : Int) := (Int.natCast_mul t t).symm
  rw [hm, h2]
  generalize t * t = z at *
  exact ⟨IntWalk.i64_in _ (by omega), IntWalk.i64_in _ (by omega)⟩
theorem Own.madeCap (w : World) (n c : Nat) (hmax : n + c ≤ maxLen) {cs : Array Value} (hcs : cs = madeCells (icell 0).toArray ((n + c) * 1)) :
    OwnN (w.alloc (.cells cs 3)) (some ⟨w.heap.size, 0, none⟩) n (n + c) (List.replicate n 0) := by
  have h := Own.ofMade (m := 1) w 3 icell (fun _ => rfl) (by decide) 0 (n + c) hmax hcs
  rw [← List.replicate_append_replicate] at h
  have h2 := Own.front icell_len h
  simpa using h2
set_option maxRecDepth 100000 in
set_option maxHeartbeats 8000000 in
theorem spare_any (A : Option Addr) (n C : Nat) (xs : List Int) (w : World) (h : IL w A n xs) (hr : n * 8 ≤ 140737488351232) :
    Calls Try.prog 34 #[.slice A n C] w fun e w' => ∃ g D, e = .returned (.tuple #[.slice (some ⟨g, 0, none⟩) n D, .slice (some ⟨g, 0, none⟩) (n + 9) D]) ∧ OwnN w' (some ⟨g, 0, none⟩) (n + 9) D (xs ++ spn 9) ∧ w.heap.size ≤ g ∧ Same w w' := by
  obtain rfl := h.len
  have hmk : ∀ w : World, (Instr.makeSlice 22 (.int .i64 (xs.length : Int)) (.int .i64 ((xs.length : Int) + 9))).run Try.prog w = .ok (.slice (some ⟨w.heap.size, 0, none⟩) xs.length (xs.length + 9)) (w.alloc (.cells (madeCells (icell 0).toArray ((xs.length + 9) * 1)) 3)) := fun w => by
    obtain ⟨i, hi, hz, hs, hb⟩ := info_parts info_int
    have hb' : (i.bytes : Int) * ((xs.length : Int) + 9) ≤ 281474976710656 := by rw [hb]; omega
    have hr := run_make (P := Try.prog) w 22 3 i _ Try.underlying22 hi hz .i64 .i64 (xs.length : Int) ((xs.length : Int) + 9) (by omega) (by omega) hb' (by omega)
    rw [hs] at hr
    rw [hr]
    have h1 : ((xs.length : Int) + 9).toNat = xs.length + 9 := by omega
    rw [h1, Int.toNat_natCast]
    rfl
  have HO := Lib.hid (Own.madeCap w xs.length 9 (show xs.length + 9 ≤ 9223372036854775807 by omega) rfl)
  have H := Lib.hid h
  have hw9 : IntKind.i64.wrap ((xs.length : Int) + 9) = (xs.length : Int) + 9 := IntWalk.i64_in _ (by omega)
  clear h
  go_enter Try.func34, Try.ntmps34
  go_upto_region 2 with fail
  refine wp_world fun wa hwa => ?_
  have hsa : Same w wa := by rw [hwa]; exact (Frm.refl _ _).alloc _
  have hOa := HO.out
  simp only [Nat.mul_one] at hOa
  rw [← hwa] at hOa
  clear hwa hmk HO hw9
  obtain ⟨w2, hr2, hO2, hw2⟩ := Own.copied (P := Try.prog) 22 22 3 Try.underlying22 (by kernel_rfl) hOa (Sl.same H.out hsa) (D := C) (Nat.le_refl _)
  have hs2 : Same w w2 := by rw [hw2]; exact Same.setRun _ _ hsa (Nat.le_refl _)
  have hO3 : OwnN w2 (some ⟨w.heap.size, 0, none⟩) xs.length (xs.length + 9) xs := by simpa using hO2
  clear hO2 hw2 hOa hsa
  have HO3 := Lib.hid hO3
  have HS2 := Lib.hid hs2
  obtain ⟨g0, hg0⟩ : ∃ z, z = w.heap.size := ⟨_, rfl⟩
  have hgw : w.heap.size ≤ g0 := Nat.le_of_eq hg0.symm
  rw [← hg0] at hr2 HO3 ⊢
  clear hO3 hs2 hg0
  refine wp_read 2 ?_
  simp only [List.take_succ_cons, List.take_zero, List.drop_succ_cons, List.drop_zero]
  repeat (any_goals (first | go_big_quiet_step (fail) | quiet_step (fail)))
  refine wpQuiet_nil ?_
  refine Lib.wpList_copy_run _ rfl _ _ _ _ rfl _ _ rfl rfl hr2 ?_
  clear hr2
  go_wp2
  go_loopw [4, 5] (fun s i wr => ∃ (j g D : Nat), j ≤ 9 ∧ i = .int .i64 j ∧ s = .slice (some ⟨g, 0, none⟩) (xs.length + j) D ∧ OwnN wr (some ⟨g, 0, none⟩) (xs.length + j) D (xs ++ spn j) ∧ w.heap.size ≤ g ∧ Same w wr) (fun _ i _ => 9 - (intOf i).toNat)
  case atStart => exact ⟨0, g0, xs.length + 9, by omega, rfl, rfl, by simpa [spn] using HO3.out, hgw, HS2.out⟩
  case round =>
    obtain ⟨j, g, D, hj, rfl, rfl, ho, hgg, hs⟩ := hrel
    clear HO3 HS2 hgw
    by_cases hlt : j < 9
    · have hj0 : (0 : Int) ≤ j := by omega
      have hj1 : (j : Int) < 9 := by omega
      obtain ⟨e1, e2⟩ := sp_facts j (by omega)
      have HO := Lib.hid ho
      have HS := Lib.hid hs
      clear ho hs
      go_upto_region 6 with fail
      refine wp_region_lit ?_
      refine wpList_read 5 ?_
      simp only [List.take_succ_cons, List.take_zero, List.drop_succ_cons, List.drop_zero]
      repeat (any_goals (first | go_big_quiet_step (fail) | quiet_step (fail)))
      refine wpQuiet_nil ?_
      refine wpList_plain rfl fun K hK => ?_
      go_simp
      refine hK _ _ ?_
      clear hK K
      refine list_world fun wc hwc => ?_
      have hsc : Same wr wc := by rw [hwc]; exact (Frm.refl _ _).alloc _
      have hNc := Blk.new wr 3 #[.int .i64 (spv j)]
      rw [← hwc] at hNc
      clear hwc
      refine wpList_plain rfl fun K hK => ?_
      refine Own.grow (f := icell) (.tmp 19) (.tmp 24) _ rfl Try.underlying22 info_int rfl rfl (Own.frm HO.out hsc (fun _ _ => id)) icell_len [spv j] (by simp) ⟨wr.heap.size, 0, none⟩ 1 rfl (fun j u hj => news_of_blk hNc j u hj) (by simp [icell, Value.oneCell']) (by simp [maxLen] <;> omega) (by simp <;> omega) ?_
      intro x C' wd hOd _ hgr hat
      refine hK _ _ ?_
      clear hK K
      have hsd : Same w wd := (HS.out.trans hsc (fun _ _ h => h)).grown hgr (fun b hb => .inr (by have := rw_some.1 (rw_own hb); omega))
      have hxg : w.heap.size ≤ x := by
        rcases hat with ⟨h1, _⟩ | ⟨h1, _⟩
        · injection h1 with h1
          injection h1 with h1
          omega
        · have := HS.out.size; have := hsc.size; omega
      have hod : OwnN wd (some ⟨x, 0, none⟩) (xs.length + (j + 1)) C' (xs ++ spn (j + 1)) := by
        rw [spn_succ, ← List.append_assoc]
        exact hOd
      have HOD := Lib.hid hod
      have HSD := Lib.hid hsd
      clear hgr hOd hat hNc hsc hod hsd e1 e2 HO HS
      obtain ⟨wq, rfl⟩ : ∃ z, z = wr := ⟨_, rfl⟩
      obtain ⟨wr, rfl⟩ : ∃ z, z = wd := ⟨_, rfl⟩
      go_wp2
      go_roundw
      case rel => exact ⟨j + 1, x, C', by omega, by go_num, by go_num, HOD.out, hxg, HSD.out⟩
      case measure => simp [intOf] <;> omega
    · obtain rfl : j = 9 := by omega
      have hC : xs.length + 9 ≤ D := Own.cap ho
      have hC2 : xs.length ≤ D := by omega
      have HO := Lib.hid ho
      clear ho
      go_wp2
      go_ret2
      exact ⟨g, D, rfl, HO.out, hgg, hs⟩
theorem kept_any (A : Option Addr) (n C : Nat) (xs : List Int) (g D : Nat) (w : World) (h : IL w A n xs) (hr : n * 8 ≤ 140737488351232) (ho : OwnN w (some ⟨g, 0, none⟩) (n + 9) D (xs ++ spn 9)) :
    Calls Try.prog 36 #[.slice (some ⟨g, 0, none⟩) (n + 9) D, .slice A n C] w fun e w' => e = .returned (.bool true) ∧ Same w w' := by
  have H := Lib.hid h
  have HO := Lib.hid ho
  clear h ho
  go_enter Try.func36, Try.ntmps36
  go_wp2_with (fail)
  refine (spare_any A n C xs w H.out hr).mono ?_
  rintro e w2 ⟨g2, D2, rfl, ho2, _, hs⟩
  have HS := Lib.hid hs
  have HO2 := Lib.hid ho2
  clear hs ho2
  go_wp2_with (fail)
  refine (same_eq _ _ _ D D2 _ w2 (Own.il (Own.frm HO.out HS.out (fun _ _ => id))) (Own.il HO2.out) (by omega)).mono ?_
  rintro e w3 ⟨rfl, hs⟩
  have HS3 := Lib.hid (HS.out.trans hs (fun _ _ h => h))
  clear hs
  go_wp2
  go_ret
  exact ⟨rfl, HS3.out⟩
theorem over_any (g n C : Nat) (xs : List Int) (w : World) (h : OwnN w (some ⟨g, 0, none⟩) n C xs) (hr : n ≤ 1000000000000000000) :
    Calls Try.prog 37 #[.slice (some ⟨g, 0, none⟩) n C] w fun e w' => e = .returned (.tuple #[]) ∧ Frm (fun b => b = g) w w' ∧ ∃ ys, OwnN w' (some ⟨g, 0, none⟩) n C ys := by
  have H := Lib.hid h
  clear h
  go_enter Try.func37, Try.ntmps37
  go_wp2
  go_loopw [2] (fun i wr => ∃ k : Nat, k ≤ n ∧ i = .int .i64 k ∧ Frm (fun b => b = g) w wr ∧ ∃ ys, OwnN wr (some ⟨g, 0, none⟩) n C ys) (fun i _ => n - (intOf i).toNat)
  case atStart => exact ⟨0, by omega, rfl, Frm.refl _ _, _, H.out⟩
  case round =>
    obtain ⟨k, hk, rfl, hf, ys, ho⟩ := hrel
    by_cases hlt : k < n
    · obtain ⟨x, hx⟩ : ∃ x, ys[k]? = some x := ⟨_, List.getElem?_eq_getElem (by rw [← ho.len]; exact hlt)⟩
      obtain ⟨s0, h0, hgl, c0⟩ := Own.at1 (c := fun x : Int => .int .i64 x) ho hx
      injection h0 with h0
      injection h0 with h0
      subst h0
      have fz := Own.free ho k
      have hi0 : (0 : Int) ≤ k := by omega
      have hi1 : (k : Int) < n := by omega
      have hln : k < ys.length := by rw [← ho.len]; exact hlt
      have HP := Lib.hid (fun x' => Own.put1 (c := fun x : Int => .int .i64 x) ho hln x')
      have HF := Lib.hid (fun u => hf.set k u (rfl : g = g))
      clear hln hx ho hf
      go_wp2
      go_roundw
      case rel => exact ⟨k + 1, by omega, by go_num, HF.out _, _, HP.out _⟩
      case measure => simp [intOf] <;> omega
    · obtain rfl : k = n := by omega
      go_wp2
      go_end0
      exact ⟨rfl, hf, ys, ho⟩
end Go.Proofs.Ytibjpclmiaimaaa
