/- Permutations: Identity, Changes of both. -/
import Derived.Test.YtibjpclmiaimaaaPmComp
namespace Go.Proofs.Ytibjpclmiaimaaa
open Go.RowKit Go.Tk

/-- what Identity answers -/
def idE (n : Int) : Int := if n < 0 ∨ 64 < n then 1 else 0
def idR (n : Int) : List Int := if n < 0 ∨ 64 < n then [] else rng n.toNat
set_option maxHeartbeats 1000000 in
theorem Identity_any (n : Int) (w : World) : Calls Try.prog 19 #[.int .i64 n] w (RetE w (idR n) (idE n)) := by
  by_cases h0 : n < 0
  · have he : idE n = 1 := by unfold idE; rw [if_pos (.inl h0)]
    have hy : idR n = [] := by unfold idR; rw [if_pos (.inl h0)]
    rw [he, hy]
    clear he hy
    go_enter Try.func19, Try.ntmps19
    go_wp2
    go_ret2
    exact ⟨none, 0, rfl, NewL.nil w⟩
  · by_cases h1 : n > 64
    · have he : idE n = 1 := by unfold idE; rw [if_pos (.inr h1)]
      have hy : idR n = [] := by unfold idR; rw [if_pos (.inr h1)]
      rw [he, hy]
      clear he hy
      go_enter Try.func19, Try.ntmps19
      go_wp2
      go_ret2
      exact ⟨none, 0, rfl, NewL.nil w⟩
    · have he : idE n = 0 := by unfold idE; rw [if_neg (by omega)]
      have hy : idR n = rng n.toNat := by unfold idR; rw [if_neg (by omega)]
      rw [he, hy]
      clear he hy
      obtain ⟨m, rfl⟩ : ∃ m : Nat, n = m := ⟨n.toNat, by omega⟩
      go_enter Try.func19, Try.ntmps19
      go_wp2_with (fail)
      refine (identity_any m w (by omega)).mono ?_
      rintro e w1 ⟨A2, C2, rfl, hN⟩
      have HN := Lib.hid hN
      clear hN
      go_wp2
      go_ret2
      exact ⟨A2, C2, rfl, HN.out⟩
set_option maxHeartbeats 1000000 in
theorem docIdentity_any (n : Int) (w : World) : Calls Try.prog 31 #[.int .i64 n] w (RetE w (idR n) (idE n)) := by
  by_cases h0 : n < 0
  · have he : idE n = 1 := by unfold idE; rw [if_pos (.inl h0)]
    have hy : idR n = [] := by unfold idR; rw [if_pos (.inl h0)]
    rw [he, hy]
    clear he hy
    go_enter Try.func31, Try.ntmps31
    go_wp2
    go_ret2
    exact ⟨none, 0, rfl, NewL.nil w⟩
  · by_cases h1 : n > 64
    · have he : idE n = 1 := by unfold idE; rw [if_pos (.inr h1)]
      have hy : idR n = [] := by unfold idR; rw [if_pos (.inr h1)]
      rw [he, hy]
      clear he hy
      go_enter Try.func31, Try.ntmps31
      go_wp2
      go_ret2
      exact ⟨none, 0, rfl, NewL.nil w⟩
    · have he : idE n = 0 := by unfold idE; rw [if_neg (by omega)]
      have hy : idR n = rng n.toNat := by unfold idR; rw [if_neg (by omega)]
      rw [he, hy]
      clear he hy
      obtain ⟨m, rfl⟩ : ∃ m : Nat, n = m := ⟨n.toNat, by omega⟩
      have hm : m ≤ 64 := by omega
      rw [show ((m : Nat) : Int).toNat = m from rfl]
      go_enter Try.func31, Try.ntmps31
      go_wp2
      go_loopw [4, 5] (fun s i wr => ∃ (k : Nat) (A2 : Option Addr) (C2 : Nat), k ≤ m ∧ i = .int .i64 k ∧ s = .slice A2 k C2 ∧ Same w wr ∧ Fresh w.heap.size A2 ∧ OwnI wr 3 A2 k C2 ((rng m).take k)) (fun _ i _ => m - (intOf i).toNat)
      case atStart => exact ⟨0, none, 0, by omega, rfl, rfl, Frm.refl _ _, fresh_none _, Own.nil _ _ _ _⟩
      case round =>
        obtain ⟨k, A2, C2, hk, rfl, rfl, hs, hf, ho⟩ := hrel
        have HR := Lib.hid ho
        have HF := Lib.hid hf
        have HS := Lib.hid hs
        have hlk : ((rng m).take k).length = k := by rw [List.length_take, rng_len]; omega
        have HLK := Lib.hid hlk
        clear hs ho hf hlk
        by_cases hlt : k < m
        · have hi1 : (k : Int) < m := by omega
          have hnx := take_snoc (rng_get hlt)
          have HNX := Lib.hid hnx
          clear hnx
          go_upto_region 7 with fail
          refine wp_read 2 ?_
          simp only [List.take_succ_cons, List.take_zero, List.drop_succ_cons, List.drop_zero]
          repeat (any_goals (first | go_big_quiet_step (fail) | quiet_step (fail)))
          refine wpQuiet_nil ?_
          refine wpList_plain rfl fun K hK => ?_
          go_simp
          refine hK _ _ ?_
          clear hK K
          refine list_world fun wa hwa => ?_
          have hN := Blk.new wr 3 #[.int .i64 (k : Int)]
          have hsa : Same wr wa := by rw [hwa]; exact (Frm.refl _ _).alloc _
          rw [← hwa] at hN
          clear hwa
          refine Own.append_list (f := icell) rfl (.tmp 17) (.tmp 19) _ rfl Try.underlying22 info_int rfl (by omega) rfl (Own.frm (HR.out) hsa (fun _ _ => id)) (fun _ => rfl) ((k : Int)) wr.heap.size 1 rfl hN (by simp [Value.oneCell', icell]) (by rw [HLK.out]; simp [maxLen]; omega) (by rw [HLK.out]; omega) ?_
          intro gg cap wb hOb hgb hat
          have HOb := Lib.hid hOb
          have HSb := Lib.hid (Same.app (HS.out) hsa hgb (HF.out))
          have HFb := Lib.hid (fresh_app (HS.out) hsa (HF.out) hat)
          clear hOb hgb hat hsa hN
          go_wp2
          go_roundw
          case rel => exact ⟨k + 1, _, cap, by omega, by go_num, rfl, HSb.out, HFb.out, by rw [HNX.out]; exact HOb.out⟩
          case measure => simp [intOf]; omega
        · obtain rfl : k = m := by omega
          go_wp2
          go_ret2
          refine ⟨A2, C2, by rw [rng_len]; rfl, ?_, HF.out, HS.out⟩
          have := HR.out
          rw [List.take_of_length_le (by rw [rng_len]; exact Nat.le_refl _)] at this
          rwa [rng_len]
/-- the exchanges that go through all orders -/
def chL (k : Int) : List Int := if k = 2 then [0] else if k = 3 then [1, 0, 1, 0, 1] else if k = 4 then [2, 1, 0, 2, 0, 1, 2, 0, 2, 1, 0, 2, 0, 1, 2, 0, 2, 1, 0, 2, 0, 1, 2] else []
def chE (k : Int) : Int := if k = 2 ∨ k = 3 ∨ k = 4 then 0 else 1
theorem lit_new (w : World) (ys : List Int) (hm : ys.length ≤ 1000) {cs : Array Value} (hcs : cs = (ys.flatMap icell).toArray) : NewL w ys (some ⟨w.heap.size, 0, none⟩) ys.length (w.alloc (.cells cs 3)) :=
  ⟨Own.lit w 3 icell (fun _ => rfl) ys (show ys.length ≤ 9223372036854775807 by omega) hcs, fresh_some (Nat.le_refl _), (Frm.refl _ _).alloc _⟩
set_option maxHeartbeats 1000000 in
theorem changes_any (k : Int) (w : World) : Calls Try.prog 20 #[.int .i64 k] w (RetE w (chL k) (chE k)) := by
  by_cases h2 : k = 2
  · subst h2
    have hN := lit_new w [0] (by decide) rfl
    have HN := Lib.hid hN
    clear hN
    go_enter Try.func20, Try.ntmps20
    go_wp2
    go_ret2
    exact ⟨_, 1, rfl, HN.out⟩
  · by_cases h3 : k = 3
    · subst h3
      have hN := lit_new w [1, 0, 1, 0, 1] (by decide) rfl
      have HN := Lib.hid hN
      clear hN
      go_enter Try.func20, Try.ntmps20
      go_wp2
      go_ret2
      exact ⟨_, 5, rfl, HN.out⟩
    · by_cases h4 : k = 4
      · subst h4
        have hN := lit_new w [2, 1, 0, 2, 0, 1, 2, 0, 2, 1, 0, 2, 0, 1, 2, 0, 2, 1, 0, 2, 0, 1, 2] (by decide) rfl
        have HN := Lib.hid hN
        clear hN h2 h3
        go_enter Try.func20, Try.ntmps20
        go_wp2
        go_ret2
        exact ⟨_, 23, rfl, HN.out⟩
      · have he : chE k = 1 := by unfold chE; rw [if_neg (by omega)]
        have hy : chL k = [] := by unfold chL; rw [if_neg h2, if_neg h3, if_neg h4]
        rw [he, hy]
        have h2' : (k == 2) = false := by simpa using h2
        have h3' : (k == 3) = false := by simpa using h3
        have h4' : (k == 4) = false := by simpa using h4
        clear h2 h3 h4 he hy
        go_enter Try.func20, Try.ntmps20
        go_wp2
        go_ret2
        exact ⟨none, 0, rfl, NewL.nil w⟩
set_option maxHeartbeats 1000000 in
theorem docChanges_any (k : Int) (w : World) : Calls Try.prog 32 #[.int .i64 k] w (RetE w (chL k) (chE k)) := by
  by_cases h2 : k = 2
  · subst h2
    have hN := lit_new w [0] (by decide) rfl
    have HN := Lib.hid hN
    clear hN
    go_enter Try.func32, Try.ntmps32
    go_wp2
    go_ret2
    exact ⟨_, 1, rfl, HN.out⟩
  · by_cases h3 : k = 3
    · subst h3
      have hN := lit_new w [1, 0, 1, 0, 1] (by decide) rfl
      have HN := Lib.hid hN
      clear hN
      go_enter Try.func32, Try.ntmps32
      go_wp2
      go_ret2
      exact ⟨_, 5, rfl, HN.out⟩
    · by_cases h4 : k = 4
      · subst h4
        have hN := lit_new w [2, 1, 0, 2, 0, 1, 2, 0, 2, 1, 0, 2, 0, 1, 2, 0, 2, 1, 0, 2, 0, 1, 2] (by decide) rfl
        have HN := Lib.hid hN
        clear hN h2 h3
        go_enter Try.func32, Try.ntmps32
        go_wp2
        go_ret2
        exact ⟨_, 23, rfl, HN.out⟩
      · have he : chE k = 1 := by unfold chE; rw [if_neg (by omega)]
        have hy : chL k = [] := by unfold chL; rw [if_neg h2, if_neg h3, if_neg h4]
        rw [he, hy]
        have h2' : (k == 2) = false := by simpa using h2
        have h3' : (k == 3) = false := by simpa using h3
        have h4' : (k == 4) = false := by simpa using h4
        clear h2 h3 h4 he hy
        go_enter Try.func32, Try.ntmps32
        go_wp2
        go_ret2
        exact ⟨none, 0, rfl, NewL.nil w⟩
end Go.Proofs.Ytibjpclmiaimaaa
