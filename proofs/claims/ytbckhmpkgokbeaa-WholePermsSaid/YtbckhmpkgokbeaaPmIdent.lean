/- Permutations: Identity, Changes of both. -/
import Derived.Test.YtbckhmpkgokbeaaPmComp
namespace Go.Proofs.Ytbckhmpkgokbeaa
open Go.RowKit Go.Tk

/-- what Identity answers -/
def idE (n : Int) : Int := if n < 0 ∨ 64 < n then 1 else 0
def idR (n : Int) : List Int := if n < 0 ∨ 64 < n then [] else rng n.toNat
set_option maxHeartbeats 1000000 in
theorem Identity_any (n : Int) (w : World) : Calls Try.prog 6 #[.int .i64 n] w (RetE w (idR n) (idE n)) := by
  by_cases h0 : n < 0
  · have he : idE n = 1 := by unfold idE; rw [if_pos (.inl h0)]
    have hy : idR n = [] := by unfold idR; rw [if_pos (.inl h0)]
    rw [he, hy]
    clear he hy
    go_enter Try.func6, Try.ntmps6
    go_wp2
    go_ret2
    exact ⟨none, 0, rfl, NewL.nil w⟩
  · by_cases h1 : n > 64
    · have he : idE n = 1 := by unfold idE; rw [if_pos (.inr h1)]
      have hy : idR n = [] := by unfold idR; rw [if_pos (.inr h1)]
      rw [he, hy]
      clear he hy
      go_enter Try.func6, Try.ntmps6
      go_wp2
      go_ret2
      exact ⟨none, 0, rfl, NewL.nil w⟩
    · have he : idE n = 0 := by unfold idE; rw [if_neg (by omega)]
      have hy : idR n = rng n.toNat := by unfold idR; rw [if_neg (by omega)]
      rw [he, hy]
      clear he hy
      obtain ⟨m, rfl⟩ : ∃ m : Nat, n = m := ⟨n.toNat, by omega⟩
      go_enter Try.func6, Try.ntmps6
      go_wp2_with (fail)
      refine (identity_any m w (by omega)).mono ?_
      rintro e w1 ⟨A2, C2, rfl, hN⟩
      have HN := Lib.hid hN
      clear hN
      go_wp2
      go_ret2
      exact ⟨A2, C2, rfl, HN.out⟩
/-- the exchanges that go through all orders -/
def chL (k : Int) : List Int := if k = 2 then [0] else if k = 3 then [1, 0, 1, 0, 1] else if k = 4 then [2, 1, 0, 2, 0, 1, 2, 0, 2, 1, 0, 2, 0, 1, 2, 0, 2, 1, 0, 2, 0, 1, 2] else []
def chE (k : Int) : Int := if k = 2 ∨ k = 3 ∨ k = 4 then 0 else 1
theorem lit_new (w : World) (ys : List Int) (hm : ys.length ≤ 1000) {cs : Array Value} (hcs : cs = (ys.flatMap icell).toArray) : NewL w ys (some ⟨w.heap.size, 0, none⟩) ys.length (w.alloc (.cells cs 3)) :=
  ⟨Own.lit w 3 icell (fun _ => rfl) ys (show ys.length ≤ 9223372036854775807 by omega) hcs, fresh_some (Nat.le_refl _), (Frm.refl _ _).alloc _⟩
set_option maxHeartbeats 1000000 in
theorem changes_any (k : Int) (w : World) : Calls Try.prog 5 #[.int .i64 k] w (RetE w (chL k) (chE k)) := by
  by_cases h2 : k = 2
  · subst h2
    have hN := lit_new w [0] (by decide) rfl
    have HN := Lib.hid hN
    clear hN
    go_enter Try.func5, Try.ntmps5
    go_wp2
    go_ret2
    exact ⟨_, 1, rfl, HN.out⟩
  · by_cases h3 : k = 3
    · subst h3
      have hN := lit_new w [1, 0, 1, 0, 1] (by decide) rfl
      have HN := Lib.hid hN
      clear hN
      go_enter Try.func5, Try.ntmps5
      go_wp2
      go_ret2
      exact ⟨_, 5, rfl, HN.out⟩
    · by_cases h4 : k = 4
      · subst h4
        have hN := lit_new w [2, 1, 0, 2, 0, 1, 2, 0, 2, 1, 0, 2, 0, 1, 2, 0, 2, 1, 0, 2, 0, 1, 2] (by decide) rfl
        have HN := Lib.hid hN
        clear hN h2 h3
        go_enter Try.func5, Try.ntmps5
        go_wp2
        go_ret2
        exact ⟨_, 23, rfl, HN.out⟩
      · have he : chE k = 1 := by unfold chE; rw [if_neg (by omega)]
        have hy : chL k = [] := by unfold chL; rw [if_neg h2, if_neg h3, if_neg h4]
        rw [he, hy]
        have h2' : (k == 2) = false := by simpa using h2
        have h3' : (k == 3) = false := by simpa using h3
        have h4' : (k == 4) = false := by simpa using h4
        clear h2 h3 h4 he hy
        go_enter Try.func5, Try.ntmps5
        go_wp2
        go_ret2
        exact ⟨none, 0, rfl, NewL.nil w⟩
end Go.Proofs.Ytbckhmpkgokbeaa
