/- Permutations: lists that are answered; place, slices.Index, DocCheck, worse, slices.Clone. -/
import Derived.Test.YtbckhmpkgokbeaaPmCheck
namespace Go.Tk
open Go.RowKit
theorem Frm.same_app {w0 w wa wb : World} {A : Option Addr} {N C : Nat} (h : Frm (fun _ => False) w0 w) (ha : Frm (fun _ => False) w wa) (hg : wa.grownBy wb (Value.slice A N C).ownBlock) (hA : Fresh w0.heap.size A) : Frm (fun _ => False) w0 wb :=
  (h.trans ha (fun _ _ h => h)).grown hg (fun g hg => .inr (hA g (ownBlock_row.1 hg)))
theorem Same.app {w0 w wa wb : World} {A : Option Addr} {N C : Nat} (h : Same w0 w) (ha : Same w wa) (hg : wa.grownBy wb (Value.slice A N C).ownBlock) (hA : Fresh w0.heap.size A) : Same w0 wb := Frm.same_app h ha hg hA
theorem fresh_app {w0 w wa : World} {A : Option Addr} {N C g : Nat} (h : Same w0 w) (ha : Same w wa) (hA : Fresh w0.heap.size A) (hat : (Value.slice A N C).ownBlock = some g ∨ g = wa.heap.size) : Fresh w0.heap.size (some ⟨g, 0, none⟩) := by
  refine fresh_some ?_
  have := h.size
  have := ha.size
  rcases hat with h | h
  · exact hA g (ownBlock_row.1 h)
  · omega
theorem IL.src {w : World} {A : Option Addr} {n : Nat} {xs : List Int} (h : IL w A n xs) (hne : xs ≠ []) : ∃ ad, A = some ad ∧ ∀ j u, (xs.flatMap icell)[j]? = some u → w.cell? (ad.add j) = some u := by
  have h0 : 0 < xs.length := List.length_pos_iff.2 hne
  obtain ⟨b, off, rfl, _, _⟩ := h.at1 (List.getElem?_eq_getElem h0)
  refine ⟨_, rfl, fun j u hj => ?_⟩
  have hfl : ∀ l : List Int, l.flatMap icell = l.map (fun x => Value.int .i64 x) := by
    intro l
    induction l with
    | nil => rfl
    | cons x l ih => rw [List.flatMap_cons, ih]; rfl
  rw [hfl, List.getElem?_map] at hj
  cases hx : xs[j]? with
  | none => rw [hx] at hj; cases hj
  | some x =>
    rw [hx] at hj
    simp at hj
    subst hj
    obtain ⟨b', off', h1, _, h3⟩ := h.at1 hx
    injection h1 with h1
    injection h1 with h1 h2
    subst h1 h2
    have : (⟨b, off, none⟩ : Addr).add j = ⟨b, off + j, none⟩ := by unfold Addr.add; split <;> simp_all
    rw [this]
    exact h3
theorem IL.nil {w : World} {n : Nat} {xs : List Int} (h : IL w none n xs) : xs = [] := by
  cases xs with
  | nil => rfl
  | cons x xs =>
    obtain ⟨b, off, h1, _⟩ := h.at1 (i := 0) (x := x) rfl
    cases h1
end Go.Tk
namespace Go.Proofs.Ytbckhmpkgokbeaa
open Go.RowKit Go.Tk

/-- a list of the call's own -/
def NewL (w : World) (ys : List Int) (A : Option Addr) (C : Nat) (w' : World) : Prop := OwnI w' 3 A ys.length C ys ∧ Fresh w.heap.size A ∧ Same w w'
def RetL (w : World) (ys : List Int) (e : Ending) (w' : World) : Prop := ∃ A C, e = .returned (.slice A ys.length C) ∧ NewL w ys A C w'
def RetE (w : World) (ys : List Int) (err : Int) (e : Ending) (w' : World) : Prop := ∃ A C, e = .returned (.tuple #[.slice A ys.length C, .int .i64 err]) ∧ NewL w ys A C w'
theorem NewL.nil (w : World) : NewL w [] none 0 w := ⟨Own.nil _ _ _ _, fresh_none _, Frm.refl _ _⟩
theorem NewL.nil' {w w' : World} (h : Same w w') : NewL w [] none 0 w' := ⟨Own.nil _ _ _ _, fresh_none _, h⟩

set_option maxHeartbeats 1000000 in
theorem index_any (A : Option Addr) (n C : Nat) (xs : List Int) (x : Int) (w : World) (h : IL w A n xs) (hr : n * 8 ≤ 140737488351232) :
    Calls Try.prog 22 #[.slice A n C, .int .i64 x] w fun e w' => e = .returned (.int .i64 (plc xs x)) ∧ w = w' := by
  obtain rfl := h.len
  have H := Lib.hid h
  clear h
  go_enter Try.func22, Try.ntmps22
  go_wp2
  go_loopw [8] (fun i wr => ∃ k : Nat, k ≤ xs.length ∧ i = .int .i64 k ∧ x ∉ xs.take k ∧ w = wr) (fun i _ => xs.length - (intOf i).toNat)
  case atStart => exact ⟨0, by omega, rfl, by simp, rfl⟩
  case round =>
    obtain ⟨k, hk, rfl, hn, rfl⟩ := hrel
    by_cases hlt : k < xs.length
    · obtain ⟨y, hy⟩ : ∃ y, xs[k]? = some y := ⟨_, List.getElem?_eq_getElem hlt⟩
      obtain ⟨b, off, rfl, hb, hc⟩ := H.out.at1 hy
      have hi0 : (0 : Int) ≤ k := by omega
      have hi1 : (k : Int) < xs.length := by omega
      have HN := Lib.hid hn
      have HY := Lib.hid hy
      clear hn hy
      by_cases he : x = y
      · subst he
        go_wp2
        go_ret
        exact ⟨ret_int (plc_first HY.out HN.out).symm, rfl⟩
      · have he' : (x == y) = false := by simpa using he
        have HE := Lib.hid he
        clear he
        go_wp2
        go_roundw
        case rel => exact ⟨k + 1, by omega, by go_num, by rw [take_snoc HY.out]; simp [HN.out, HE.out], trivial⟩
        case measure => simp [intOf]; omega
    · obtain rfl : k = xs.length := by omega
      have HN := Lib.hid hn
      clear hn
      go_wp2
      go_ret
      exact ⟨ret_int (plc_none (by simpa using HN.out)).symm, rfl⟩

set_option maxHeartbeats 1000000 in
theorem clone_any (A : Option Addr) (n C : Nat) (xs : List Int) (w : World) (h : IL w A n xs) (hr : n * 8 ≤ 140737488351232) :
    Calls Try.prog 20 #[.slice A n C] w (RetL w xs) := by
  obtain rfl := h.len
  cases A with
  | none =>
    have hx := h.nil
    subst hx
    clear h
    go_enter Try.func20, Try.ntmps20
    go_wp2
    go_ret
    exact ⟨none, 0, rfl, NewL.nil w⟩
  | some ad =>
    have H := Lib.hid h
    clear h
    go_enter Try.func20, Try.ntmps20
    go_upto_region 3 with fail
    refine wp_region_lit ?_
    refine wpList_plain rfl fun K hK => ?_
    go_simp
    refine hK _ _ ?_
    clear hK K
    refine list_world fun wa hwa => ?_
    have hO := Own.lit w 3 icell (fun _ => rfl) [] (by simp) (cs := #[]) rfl
    have hsa : Same w wa := by rw [hwa]; exact (Frm.refl _ _).alloc _
    rw [← hwa] at hO
    clear hwa
    refine wpList_read 1 ?_
    simp only [List.take_succ_cons, List.take_zero, List.drop_succ_cons, List.drop_zero]
    repeat (any_goals (first | go_big_quiet_step (fail) | quiet_step (fail)))
    refine wpQuiet_nil ?_
    refine wpList_plain rfl fun K hK => ?_
    refine Own.append_many (.tmp 5) (.tmp 6) _ rfl Try.underlying22 info_int rfl (by omega) rfl hO (fun _ => rfl) xs (some ad) C rfl (fun hne => IL.src (Sl.same H.out hsa) hne) (by simp [icell, Value.oneCell']) (by simp [maxLen]; omega) (by simp; omega) ?_
    intro A1 C1 w1 hO1 hg1 hat1
    refine hK _ _ ?_
    clear hK K
    simp only [List.nil_append] at hO1 ⊢
    have hF0 : Fresh w.heap.size (some ⟨w.heap.size, 0, none⟩) := fresh_some (Nat.le_refl _)
    have hs1 := Same.app (Frm.refl _ _) hsa hg1 hF0
    have hF1 : Fresh w.heap.size A1 := fun b hb => by
      have := hsa.size
      rcases hat1 b hb with h | h
      · exact hF0 b h
      · omega
    have HO1 := Lib.hid hO1
    have HS1 := Lib.hid hs1
    have HF1 := Lib.hid hF1
    clear hO1 hs1 hF1 hat1 hg1 hF0 hO hsa
    go_wp2
    go_ret
    exact ⟨A1, C1, rfl, HO1.out, HF1.out, HS1.out⟩

/-- 0 .. k-1, then noughts -/
def idL (n k : Nat) : List Int := (List.range n).map fun j : Nat => if j < k then (j : Int) else 0
theorem idL_len (n k : Nat) : (idL n k).length = n := by simp [idL]
theorem idL_zero (n : Nat) : idL n 0 = List.replicate n 0 := by
  apply List.ext_getElem?
  intro j
  rcases Nat.lt_or_ge j n with h | h
  · simp [idL, h]
  · rw [List.getElem?_eq_none (by rw [idL_len]; exact h), List.getElem?_eq_none (by simpa using h)]
theorem idL_full (n : Nat) : idL n n = rng n := by
  apply List.ext_getElem?
  intro j
  rcases Nat.lt_or_ge j n with h | h
  · rw [rng_get h]; simp [idL, h]
  · rw [List.getElem?_eq_none (by rw [idL_len]; exact h), List.getElem?_eq_none (by rw [rng_len]; exact h)]
theorem idL_set {n k : Nat} (_h : k < n) : (idL n k).set k (k : Int) = idL n (k + 1) := by
  apply List.ext_getElem?
  intro j
  rcases Nat.lt_or_ge j n with hj | hj
  · rw [List.getElem?_set, idL_len]
    simp only [idL, List.getElem?_map, List.getElem?_range hj, Option.map_some]
    split
    · rename_i he; subst he; simp
    · rename_i he
      congr 1
      by_cases h : j < k
      · rw [if_pos h, if_pos (by omega)]
      · rw [if_neg h, if_neg (by omega)]
  · rw [List.getElem?_eq_none (by simp [idL_len, hj]), List.getElem?_eq_none (by rw [idL_len]; exact hj)]

set_option maxHeartbeats 1000000 in
theorem identity_any (n : Nat) (w : World) (hn : n ≤ 1000) : Calls Try.prog 18 #[.int .i64 n] w (RetL w (rng n)) := by
  have hmk := fun w => run_make_n (P := Try.prog) Try.underlying22 info_int .i64 .i64 n (show 8 * n ≤ 281474976710656 by omega) (show n ≤ 9223372036854775807 by omega) w
  have hO := Own.ofMade (m := 1) w 3 icell (fun _ => rfl) (by decide) 0 n (show n ≤ 9223372036854775807 by omega) rfl
  rw [← idL_zero n] at hO
  have hs1 : ∀ cs, Same w (w.alloc (.cells cs 3)) := fun cs => (Frm.refl _ _).alloc _
  have HO := Lib.hid hO
  clear hO
  go_enter Try.func18, Try.ntmps18
  go_wp2
  go_loopw [8] (fun i wr => ∃ k : Nat, k ≤ n ∧ i = .int .i64 k ∧ Same w wr ∧ OwnI wr 3 (some ⟨w.heap.size, 0, none⟩) n n (idL n k)) (fun i _ => n - (intOf i).toNat)
  case atStart => exact ⟨0, by omega, rfl, hs1 _, by simpa [icell] using HO.out⟩
  case round =>
    clear hmk hs1 HO
    obtain ⟨k, hk, rfl, hs, ho⟩ := hrel
    have HS := Lib.hid hs
    have HR := Lib.hid ho
    clear hs ho
    by_cases hlt : k < n
    · have hi1 : (k : Int) < n := by omega
      have hi0 : (0 : Int) ≤ k := by omega
      obtain ⟨sb, hsb, hsl, hsc⟩ := HR.out.at1 (c := fun x => .int .i64 x) (i := k) (x := (idL n k)[k]'(by rw [idL_len]; exact hlt)) (List.getElem?_eq_getElem _)
      injection hsb with hsb
      injection hsb with hsb
      subst hsb
      have hfr := Own.free HR.out k
      have hst := Own.put1 (c := fun x => .int .i64 x) HR.out (i := k) (by rw [idL_len]; exact hlt) (k : Int)
      rw [idL_set hlt] at hst
      generalize (idL n k)[k]'(by rw [idL_len]; exact hlt) = old at hsc
      have HST := Lib.hid hst
      clear hst
      go_wp2
      go_roundw
      case rel => exact ⟨k + 1, by omega, by go_num, HS.out.setNew _ _ (Nat.le_refl _), HST.out⟩
      case measure => simp [intOf]; omega
    · obtain rfl : k = n := by omega
      go_wp2
      go_ret
      refine ⟨some ⟨w.heap.size, 0, none⟩, k, by rw [rng_len]; rfl, ?_, fresh_some (Nat.le_refl _), HS.out⟩
      have := HR.out
      rw [idL_full] at this
      rwa [rng_len]
end Go.Proofs.Ytbckhmpkgokbeaa
