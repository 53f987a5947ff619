/- slices.Delete of one thing, in place. -/
import Derived.Test.YtbckhmpkgokbeaaPmAwake
import Derived.Test.YtbckhmpkgokbeaaCut
namespace Go.Proofs.Ytbckhmpkgokbeaa
open Go.RowKit Go.Tk

theorem run_clear_one (w : World) (ty : TypeId) (sb o c : Nat) (h : ∃ v, w.cell? ⟨sb, o, none⟩ = some v) (hf : w.frozen? ⟨sb, o, none⟩ = false) :
    (Builtin.clear_ #[22] ty #[.slice (some ⟨sb, o, none⟩) 1 c]).run Try.prog w = .ok (.tuple #[]) (w.setCell ⟨sb, o, none⟩ (.int .i64 0)) := by
  obtain ⟨v, hv⟩ := h
  obtain ⟨i, hi, hz, hs, hb⟩ := info_parts info_int
  simp [Builtin.clear_, run_underlying Try.underlying22, zeroValue, typeInfo, hi, hz, Builtin.zeroCells, storeCells, hv, hf, go_sem]
set_option maxHeartbeats 2000000 in
theorem delete_any {sb N C i : Nat} {xs : List Int} (w : World) (h : OwnI w 3 (some ⟨sb, 0, none⟩) N C xs) (hi : i < N) (hN : N ≤ 1000) :
    Calls Try.prog 23 #[.slice (some ⟨sb, 0, none⟩) N C, .int .i64 i, .int .i64 ((i : Int) + 1)] w fun e w' => e = .returned (.slice (some ⟨sb, 0, none⟩) (N - 1) C) ∧
      OwnI w' 3 (some ⟨sb, 0, none⟩) (N - 1) C (xs.take i ++ xs.drop (i + 1)) ∧ Frm (fun b => b = sb) w w' := by
  obtain rfl := h.len
  have hcap := Own.cap h
  have hsb : sb < w.heap.size := h.block _ rfl
  obtain ⟨i0, hi0, hz0, hz1, hz2⟩ := info_parts info_int
  have hq0 : (0 : Int) ≤ i := by omega
  have hq1 : (i : Int) + 1 ≤ xs.length := by omega
  have hq2 : (i : Int) ≤ (i : Int) + 1 := by omega
  have hq3 : ((i : Int) + 1).toNat = i + 1 := by omega
  have hq4 : (0 : Int) ≤ (i : Int) + 1 := by omega
  have hq5 : ((i : Int) == (i : Int) + 1) = false := by simp; omega
  have hq6 : (i : Int) ≤ C := by omega
  have hq7 : (i : Int) + 1 ≤ C := by omega
  have hq8 : (xs.length : Int) ≤ C := by omega
  have hsrc : xs.drop (i + 1) ≠ [] → ∃ ad, (if C = i + 1 then some (⟨sb, 0, none⟩ : Addr) else some ⟨sb, i + 1, none⟩) = some ad ∧ ∀ j u, ((xs.drop (i + 1)).map (Value.int .i64))[j]? = some u → w.drew.cell? (ad.add j) = some u := by
    intro hne
    have h0 : i + 1 < xs.length := by
      rcases Nat.lt_or_ge (i + 1) xs.length with h' | h'
      · exact h'
      · exact absurd (List.drop_eq_nil_of_le (by omega)) hne
    refine ⟨⟨sb, i + 1, none⟩, by rw [if_neg (by omega)], fun j u hj => ?_⟩
    rw [List.getElem?_map, List.getElem?_drop] at hj
    cases hx : xs[i + 1 + j]? with
    | none => rw [hx] at hj; cases hj
    | some x =>
      rw [hx] at hj
      simp at hj
      subst hj
      obtain ⟨sb', h1, _, h3⟩ := Own.at1 (c := fun x => .int .i64 x) h hx
      injection h1 with h1
      injection h1 with h1
      subst h1
      have : (⟨sb, i + 1, none⟩ : Addr).add j = ⟨sb, i + 1 + j, none⟩ := by unfold Addr.add; split <;> simp_all
      rw [this]
      exact h3
  have H := Lib.hid h
  have HSRC := Lib.hid hsrc
  clear h hsrc
  go_enter Try.func23, Try.ntmps23
  go_upto_region 5 with fail
  refine wp_phS (fun b => b = sb) [([0, 1, 2, 3, 4, 5], 6), ([], 7)] (by kernel_rfl) (by kernel_rfl) ?_
  simp only [wpPh, pick, List.map_cons, List.map_nil, List.getD_cons_zero, List.getD_cons_succ]
  repeat (any_goals (first | go_big_quiet_step (fail) | quiet_step (fail)))
  refine wpQuiet_nil ?_
  refine effStep_plain rfl fun K hK => ?_
  have hd : OwnI w.drew 3 (some ⟨sb, 0, none⟩) xs.length C xs := Own.frm H.out ((Frm.refl (fun _ => False) _).drew) (fun _ _ => id)
  have hdown := Own.down (c := fun x => .int .i64 x) hd hi
  have hfr : Frm (fun b => b = sb) w (w.drew.setCells sb i ((xs.drop (i + 1)).map (fun x => .int .i64 x))) := by
    rw [put_setCells]
    exact Frm.put (S := fun b => b = sb) rfl _ _ ((Frm.refl _ _).drew)
  obtain ⟨ad, had⟩ : ∃ ad : Addr, ad = if C = i + 1 then ⟨sb, 0, none⟩ else ⟨sb, i + 1, none⟩ := ⟨_, rfl⟩
  have hadd : (if C = i + 1 then some (⟨sb, 0, none⟩ : Addr) else some ⟨sb, i + 1, none⟩) = some ad := by rw [had]; split <;> rfl
  have hsrc := HSRC.out
  rw [hadd] at hsrc ⊢
  refine wp_append_room rfl (.tmp 22) (.tmp 25) 22 rfl 3 i0 1 Try.underlying22 hi0 hz1 sb 0 i C rfl ad (xs.length - (i + 1)) (C - (i + 1)) ((xs.drop (i + 1)).map (Value.int .i64)) rfl (by simp) (fun j u hj => ?_) (fun u hu => ?_) (by omega) (fun j hj => ?_) ?_
  · have hne : xs.drop (i + 1) ≠ [] := by rintro h0; rw [h0] at hj; simp at hj
    obtain ⟨ad', h1, h2⟩ := hsrc hne
    injection h1 with h1
    subst h1
    exact h2 j u hj
  · obtain ⟨x, _, rfl⟩ := List.mem_map.1 hu
    rfl
  · simp at hj
    have hx := List.getElem?_eq_getElem (l := xs) (i := i + j) (by omega)
    obtain ⟨sb', h1, _, h3⟩ := Own.at1 (c := fun x => .int .i64 x) hd hx
    injection h1 with h1
    injection h1 with h1
    subst h1
    have h4 := Own.free hd (i + j)
    rw [show 0 + i * 1 + j = i + j by omega]
    exact ⟨by rw [h3]; rfl, h4⟩
  rw [show 0 + i * 1 = i by omega, show i + (xs.length - (i + 1)) = xs.length - 1 by omega]
  refine hK _ _ (Lat.mk_ hfr) ?_
  clear hK K
  have hz : ∃ z, xs.drop (xs.length - 1) = [z] := by
    have hx := List.getElem?_eq_getElem (l := xs) (i := xs.length - 1) (by omega)
    refine ⟨xs[xs.length - 1]'(by omega), ?_⟩
    rw [List.drop_eq_getElem_cons (by omega), List.drop_eq_nil_of_le (by omega)]
  obtain ⟨z, hz⟩ := hz
  rw [hz] at hdown
  have hly : (xs.take i ++ xs.drop (i + 1)).length = xs.length - 1 := by simp; omega
  replace hfr : Frm (fun b => b = sb) w (w.drew.setCells sb i ((xs.drop (i + 1)).map (Value.int .i64))) := hfr
  replace hdown : OwnI (w.drew.setCells sb i ((xs.drop (i + 1)).map (Value.int .i64))) 3 (some ⟨sb, 0, none⟩) xs.length C (xs.take i ++ xs.drop (i + 1) ++ [z]) := hdown
  generalize w.drew.setCells sb i ((xs.drop (i + 1)).map (Value.int .i64)) = w1 at hfr hdown ⊢
  obtain ⟨ys, hys⟩ : ∃ ys, xs.take i ++ xs.drop (i + 1) = ys := ⟨_, rfl⟩
  rw [hys] at hdown hly
  obtain ⟨sb', hsb', hsl, hzc⟩ := Own.at1 (c := fun x => .int .i64 x) (i := xs.length - 1) (x := z) hdown (by rw [← hly]; simp)
  injection hsb' with hsb'
  injection hsb' with hsb'
  subst hsb'
  have hzf := Own.free hdown (xs.length - 1)
  have hst := Own.put1 (c := fun x => .int .i64 x) hdown (i := xs.length - 1) (by simp; omega) 0
  have hset : (ys ++ [z]).set (xs.length - 1) 0 = ys ++ [0] := by rw [← hly]; simp
  rw [hset] at hst
  have hpop := Own.pop1 (c := fun x => .int .i64 x) hst
  rw [hly] at hpop
  have hcl := fun ty c => run_clear_one w1 ty sb (xs.length - 1) c ⟨_, hzc⟩ hzf
  have HYS := Lib.hid hys
  have HPOP := Lib.hid hpop
  have HFR := Lib.hid (hfr.setCell (p := ⟨sb, xs.length - 1, none⟩) (.inl rfl) (.int .i64 0))
  have hn1 : ((xs.length - 1 : Nat) : Int) ≤ xs.length := by omega
  have hn2 : ¬ C = xs.length - 1 := by omega
  have hn3 : xs.length - (xs.length - 1) = 1 := by omega
  clear hd hdown hfr had hadd hsrc hz hly hys hst hset hpop H HSRC
  refine wpQuiet_nil ?_
  go_upto_region 6 with fail
  refine wp_read 5 ?_
  simp only [List.take_succ_cons, List.take_zero, List.drop_succ_cons, List.drop_zero]
  repeat (any_goals (first | go_big_quiet_step (fail) | quiet_step (fail)))
  refine wpQuiet_nil ?_
  refine wpList_plain rfl fun K hK => ?_
  unfold Oper.wp execOp
  simp only [resolve, invoke, builtin, Sem.run_bind, Sem.run_pure, Result.andThen_ok, List.map_toArray, List.map_cons, List.map_nil]
  have hev : ∀ (a : Act), a.tmps.getD 31 undef = .slice (some ⟨sb, xs.length - 1, none⟩) 1 (C - (xs.length - 1)) → a.eval (.tmp 31) = .slice (some ⟨sb, xs.length - 1, none⟩) 1 (C - (xs.length - 1)) := fun a h => h
  rw [hev _ rfl, hcl]
  refine hK _ _ ?_
  clear hK K hcl hev
  go_wp2
  go_ret
  refine ⟨rfl, ?_, HFR.out⟩
  rw [HYS.out]
  exact HPOP.out
end Go.Proofs.Ytbckhmpkgokbeaa
