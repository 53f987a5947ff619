/- Permutations: Swapped of the program; Turned and DocSwapped of the reference. -/
import Derived.Test.YtbckhmpkgokbeaaPmLists
import Derived.BigRegion
namespace Go.Proofs.Ytbckhmpkgokbeaa
open Go.RowKit Go.Tk

theorem swp_get (p : List Int) (l : Nat) {a b : Int} (ha : p[l]? = some a) (hb : p[l + 1]? = some b) : swp p l = (p.set l b).set (l + 1) a := by
  unfold swp
  simp [List.getD_eq_getElem?_getD, ha, hb]
/-- what Swapped answers -/
def swE (p : List Int) (l : Int) : Int := if l < 0 ∨ (p.length : Int) - 2 < l then 1 else chk p
def swL (p : List Int) (l : Int) : List Int := if swE p l = 0 then swp p l.toNat else []

set_option maxHeartbeats 2000000 in
theorem swapped_ok (A : Option Addr) (n C : Nat) (xs : List Int) (l : Nat) (w : World) (h : IL w A n xs) (hr : n * 8 ≤ 140737488351232) (hl : l + 2 ≤ n) (hc : chk xs = 0) :
    Calls Try.prog 8 #[.slice A n C, .int .i64 l] w (RetE w (swp xs l) 0) := by
  obtain rfl := h.len
  have H := Lib.hid h
  have HC := Lib.hid hc
  have hl0 : ¬ (l : Int) < 0 := by omega
  have hl1 : ¬ (l : Int) > (xs.length : Int) - 2 := by omega
  clear h hc
  go_enter Try.func8, Try.ntmps8
  go_wp2_with (fail)
  refine (check_any A _ C xs w H.out hr).mono ?_
  rintro e w1 ⟨rfl, hs1⟩
  rw [HC.out]
  go_wp2_with (fail)
  refine (clone_any A _ C xs w1 (Sl.same H.out hs1) hr).mono ?_
  rintro e w2 ⟨A2, C2, rfl, hO, hF, hs2⟩
  obtain ⟨a, ha⟩ : ∃ a, xs[l]? = some a := ⟨_, List.getElem?_eq_getElem (by omega)⟩
  obtain ⟨b, hb⟩ : ∃ b, xs[l + 1]? = some b := ⟨_, List.getElem?_eq_getElem (by omega)⟩
  obtain ⟨sb, rfl, hsb, ca⟩ := hO.at1 (c := fun x => .int .i64 x) ha
  obtain ⟨sb', hsb', _, cb⟩ := hO.at1 (c := fun x => .int .i64 x) hb
  injection hsb' with hsb'
  injection hsb' with hsb'
  subst hsb'
  have fa := Own.free hO l
  have fb := Own.free hO (l + 1)
  have hs12 : Same w w2 := hs1.trans hs2 (fun _ _ h => h)
  have hsb0 : w.heap.size ≤ sb := by have := hF sb ⟨_, rfl, rfl⟩; have := hs1.size; omega
  have HO := Lib.hid hO
  have HS := Lib.hid hs12
  have HA := Lib.hid ha
  have HB := Lib.hid hb
  clear hO hs12 ha hb hF hs1 hs2
  have hw0 : IntKind.i64.wrap ((l : Int) + 1) = l + 1 := IntWalk.i64_in _ (by omega)
  have hw1 : (0 : Int) ≤ (l : Int) + 1 := by omega
  have hw2 : ((l : Int) + 1).toNat = l + 1 := by omega
  have hw3 : (l : Int) + 1 < xs.length := by omega
  have hw4 : (l : Int) < xs.length := by omega
  have hw5 : (0 : Int) ≤ (l : Int) := by omega
  go_upto_region 7 with fail
  go_region
  have h1 := Own.put1 (c := fun x => .int .i64 x) HO.out (i := l) (by omega) b
  have h2 := Own.put1 (c := fun x => .int .i64 x) h1 (i := l + 1) (by rw [List.length_set]; omega) a
  rw [← swp_get xs l HA.out HB.out] at h2
  have h3 : OwnI ((w2.setCell ⟨sb, l, none⟩ (.int .i64 b)).setCell ⟨sb, l + 1, none⟩ (.int .i64 a)).drew 3 (some ⟨sb, 0, none⟩) xs.length C2 (swp xs l) := Own.frm h2 ((Frm.refl (fun _ => False) _).drew) (fun _ _ => id)
  have hs3 : Same w ((w2.setCell ⟨sb, l, none⟩ (.int .i64 b)).setCell ⟨sb, l + 1, none⟩ (.int .i64 a)).drew := ((HS.out.setNew _ _ hsb0).setNew _ _ hsb0).drew
  generalize ((w2.setCell ⟨sb, l, none⟩ (.int .i64 b)).setCell ⟨sb, l + 1, none⟩ (.int .i64 a)).drew = w3 at h3 hs3 ⊢
  have HO3 := Lib.hid h3
  have HS3 := Lib.hid hs3
  clear h1 h2 h3 hs3 ca cb fa fb hw0 hw1 hw2 hw3 hw4 hw5
  go_wp2
  go_ret2
  exact ⟨some ⟨sb, 0, none⟩, C2, by rw [swp_len]; rfl, by rw [swp_len]; exact HO3.out, fresh_some hsb0, HS3.out⟩
set_option maxHeartbeats 1000000 in
theorem swapped_any (A : Option Addr) (n C : Nat) (xs : List Int) (l : Int) (w : World) (h : IL w A n xs) (hr : n * 8 ≤ 140737488351232) :
    Calls Try.prog 8 #[.slice A n C, .int .i64 l] w (RetE w (swL xs l) (swE xs l)) := by
  obtain rfl := h.len
  by_cases h0 : l < 0
  · have he : swE xs l = 1 := by unfold swE; rw [if_pos (.inl h0)]
    have hy : swL xs l = [] := by unfold swL; rw [he, if_neg (by decide)]
    rw [he, hy]
    clear h he hy
    go_enter Try.func8, Try.ntmps8
    go_wp2
    go_ret2
    exact ⟨none, 0, rfl, NewL.nil w⟩
  · by_cases h1 : l > (xs.length : Int) - 2
    · have he : swE xs l = 1 := by unfold swE; rw [if_pos (.inr (by omega))]
      have hy : swL xs l = [] := by unfold swL; rw [he, if_neg (by decide)]
      rw [he, hy]
      clear h he hy
      go_enter Try.func8, Try.ntmps8
      go_wp2
      go_ret2
      exact ⟨none, 0, rfl, NewL.nil w⟩
    · have he : swE xs l = chk xs := by unfold swE; rw [if_neg (by omega)]
      by_cases hc : chk xs = 0
      · have hy : swL xs l = swp xs l.toNat := by unfold swL; rw [he, hc, if_pos rfl]
        rw [he, hc, hy]
        have := swapped_ok A _ C xs l.toNat w h hr (by omega) hc
        rwa [show ((l.toNat : Nat) : Int) = l by omega] at this
      · have hy : swL xs l = [] := by unfold swL; rw [he, if_neg hc]
        rw [he, hy]
        obtain ⟨c, hcc⟩ : ∃ c, chk xs = c := ⟨_, rfl⟩
        rw [hcc] at hc ⊢
        have hc' : (c != 0) = true := by simpa using hc
        have HC := Lib.hid hcc
        have H := Lib.hid h
        clear h he hy hcc hc
        go_enter Try.func8, Try.ntmps8
        go_wp2_with (fail)
        refine (check_any A _ C xs w H.out hr).mono ?_
        rintro e w1 ⟨rfl, hs1⟩
        rw [HC.out]
        go_wp2
        go_ret2
        exact ⟨none, 0, rfl, NewL.nil' hs1⟩

end Go.Proofs.Ytbckhmpkgokbeaa
