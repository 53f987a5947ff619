/- Contracts and plain laws, put together in one file. No condition. -/
import Derived.Test.YtibjpclmiaimaaaJPermMemory2
import Derived.BigRegion
import Derived.Test.YtibjpclmiaimaaaRows


/- Permutations: PermMemory: the walk. -/
namespace Go.Proofs.Ytibjpclmiaimaaa
open Go.RowKit Go.Tk

structure TLi (h0 : Nat) (w : World) (ts : List Rw) (cs : List (List Int)) : Prop where
  len : ts.length = cs.length
  own : ∀ (i : Nat) (t : Rw), ts[i]? = some t → ∃ c, cs[i]? = some c ∧ OwnN w t.A t.N t.C c
  fresh : ∀ (i : Nat) (t : Rw), ts[i]? = some t → Fresh h0 t.A
  dis : ∀ (i j : Nat) (t u : Rw), ts[i]? = some t → ts[j]? = some u → i ≠ j → ∀ b, rowOf t.A b → ¬ rowOf u.A b
theorem TLi.nil (h0 : Nat) (w : World) : TLi h0 w [] [] := ⟨rfl, fun i t h => by simp at h, fun i t h => by simp at h, fun i j t u h => by simp at h⟩
theorem TLi.row {h0 : Nat} {w : World} {ts : List Rw} {cs : List (List Int)} (h : TLi h0 w ts cs) {i : Nat} {t : Rw} (hi : ts[i]? = some t) : ∀ b, rowOf t.A b → b < w.heap.size := by
  obtain ⟨c, _, ho⟩ := h.own i t hi
  exact Own.row ho
theorem TLi.frm {h0 : Nat} {w w' : World} {S : Nat → Prop} {ts : List Rw} {cs : List (List Int)} (h : TLi h0 w ts cs) (hf : Frm S w w') (hn : ∀ (i : Nat) (t : Rw), ts[i]? = some t → ∀ b, rowOf t.A b → ¬ S b) : TLi h0 w' ts cs :=
  ⟨h.len, fun i t hi => by obtain ⟨c, h1, h3⟩ := h.own i t hi; exact ⟨c, h1, frm_own h3 hf (hn i t hi)⟩, h.fresh, h.dis⟩
theorem TLi.same {h0 : Nat} {w w' : World} {ts : List Rw} {cs : List (List Int)} (h : TLi h0 w ts cs) (hf : Same w w') : TLi h0 w' ts cs := h.frm hf (fun _ _ _ _ _ => id)
theorem TLi.grownR {h0 : Nat} {w w' : World} {LA : Option Addr} {k LC : Nat} {rs ts : List Rw} {cs : List (List Int)} (h : TLi h0 w ts cs) (hl : OwnR w LA k LC rs) (hg : w.grownBy w' (Value.slice LA k LC).ownBlock) : TLi h0 w' ts cs :=
  ⟨h.len, fun i t hi => by obtain ⟨c, h1, h3⟩ := h.own i t hi; exact ⟨c, h1, Own.keptBy h3 hg (fun b hb hA => Own.ne_own h3 hl (by decide) b hA (rw_own hb))⟩, h.fresh, h.dis⟩
theorem snoc_cases {α : Type} {xs : List α} {x y : α} {i : Nat} (h : (xs ++ [x])[i]? = some y) : xs[i]? = some y ∨ (i = xs.length ∧ y = x) := by
  rcases Nat.lt_or_ge i xs.length with hl | hl
  · rw [List.getElem?_append_left hl] at h; exact .inl h
  · rw [List.getElem?_append_right hl] at h
    cases hk : i - xs.length with
    | zero => rw [hk] at h; simp at h; exact .inr ⟨by omega, h.symm⟩
    | succ k => rw [hk] at h; simp at h
theorem TLi.snoc {h0 : Nat} {w w' : World} {ts : List Rw} {cs : List (List Int)} (h : TLi h0 w ts cs) (hh : h0 ≤ w.heap.size) {ys : List Int} {A : Option Addr} {C : Nat} (hN : NewL w ys A C w') : TLi h0 w' (ts ++ [⟨A, ys.length, C⟩]) (cs ++ [ys]) := by
  obtain ⟨ho, hf, hs⟩ := hN
  refine ⟨by simp [h.len], fun i t hi => ?_, fun i t hi => ?_, fun i j t u hi hj hne => ?_⟩
  · rcases snoc_cases hi with h1 | ⟨rfl, rfl⟩
    · obtain ⟨c, h2, h4⟩ := h.own i t h1
      exact ⟨c, by rw [List.getElem?_append_left (lt_get h2)]; exact h2, Own.frm h4 hs (fun _ _ => id)⟩
    · exact ⟨ys, by rw [h.len]; simp, ho⟩
  · rcases snoc_cases hi with h1 | ⟨rfl, rfl⟩
    · exact h.fresh i t h1
    · intro b hb
      have := hf b hb
      omega
  · rcases snoc_cases hi with h1 | ⟨rfl, rfl⟩
    · rcases snoc_cases hj with h2 | ⟨rfl, rfl⟩
      · exact h.dis i j t u h1 h2 hne
      · intro b hb hr
        have := hf b hr
        have := h.row h1 b hb
        omega
    · rcases snoc_cases hj with h2 | ⟨rfl, rfl⟩
      · intro b hb hr
        have := hf b hb
        have := h.row h2 b hr
        omega
      · exact absurd rfl hne
/-- within the law's first loop -/
structure QN (u w : World) (GA CA n : Nat) (al : List Rw) (FA : Option Addr) (FC m : Nat) (bs us : List Rw) (ucs : List (List Int)) (vs : List Rw) (vcs : List (List Int)) : Prop where
  same : Same u w
  all : OwnR w (some ⟨GA, 0, none⟩) n CA al
  first : OwnR w FA m FC bs
  tl : TLi u.heap.size w us ucs
  ftl : TLi u.heap.size w vs vcs
  ga : u.heap.size ≤ GA
  ff : Fresh u.heap.size FA
  ne : ¬ rowOf FA GA
theorem QN.next {u w w' : World} {GA CA n : Nat} {al : List Rw} {FA : Option Addr} {FC m : Nat} {bs us : List Rw} {ucs : List (List Int)} {vs : List Rw} {vcs : List (List Int)} (h : QN u w GA CA n al FA FC m bs us ucs vs vcs) (hs : Same w w') : QN u w' GA CA n al FA FC m bs us ucs vs vcs :=
  ⟨h.same.trans hs (fun _ _ h => h), Own.frm h.all hs (fun _ _ => id), Own.frm h.first hs (fun _ _ => id), h.tl.same hs, h.ftl.same hs, h.ga, h.ff, h.ne⟩
theorem QN.callU {u w w' : World} {GA CA n : Nat} {al : List Rw} {FA : Option Addr} {FC m : Nat} {bs us : List Rw} {ucs : List (List Int)} {vs : List Rw} {vcs : List (List Int)} (h : QN u w GA CA n al FA FC m bs us ucs vs vcs) {ys : List Int} {A : Option Addr} {C : Nat} (hN : NewL w ys A C w') : QN u w' GA CA n al FA FC m bs (us ++ [⟨A, ys.length, C⟩]) (ucs ++ [ys]) vs vcs :=
  ⟨h.same.trans hN.2.2 (fun _ _ h => h), Own.frm h.all hN.2.2 (fun _ _ => id), Own.frm h.first hN.2.2 (fun _ _ => id), h.tl.snoc h.same.size hN, h.ftl.same hN.2.2, h.ga, h.ff, h.ne⟩
theorem QN.callV {u w w' : World} {GA CA n : Nat} {al : List Rw} {FA : Option Addr} {FC m : Nat} {bs us : List Rw} {ucs : List (List Int)} {vs : List Rw} {vcs : List (List Int)} (h : QN u w GA CA n al FA FC m bs us ucs vs vcs) {ys : List Int} {A : Option Addr} {C : Nat} (hN : NewL w ys A C w') : QN u w' GA CA n al FA FC m bs us ucs (vs ++ [⟨A, ys.length, C⟩]) (vcs ++ [ys]) :=
  ⟨h.same.trans hN.2.2 (fun _ _ h => h), Own.frm h.all hN.2.2 (fun _ _ => id), Own.frm h.first hN.2.2 (fun _ _ => id), h.tl.same hN.2.2, h.ftl.snoc h.same.size hN, h.ga, h.ff, h.ne⟩
theorem QN.appA {u w wa wb : World} {GA CA n : Nat} {al : List Rw} {FA : Option Addr} {FC m : Nat} {bs us : List Rw} {ucs : List (List Int)} {vs : List Rw} {vcs : List (List Int)} (h : QN u w GA CA n al FA FC m bs us ucs vs vcs) {g C' n' : Nat} {al' : List Rw} (hs : Same w wa) (hg : wa.grownBy wb (Value.slice (some ⟨GA, 0, none⟩) n CA).ownBlock) (ho : OwnR wb (some ⟨g, 0, none⟩) n' C' al')
    (hat : ((some ⟨GA, 0, none⟩ : Option Addr) = some ⟨g, 0, none⟩ ∧ C' = CA) ∨ (g = wa.heap.size ∧ wa.grownBy wb none)) : QN u wb g C' n' al' FA FC m bs us ucs vs vcs := by
  have h1 := h.next hs
  have hsz := h1.same.size
  have hat2 : g = GA ∨ g = wa.heap.size := by
    rcases hat with ⟨h2, _⟩ | ⟨h2, _⟩
    · injection h2 with h2
      injection h2 with h2
      exact .inl h2.symm
    · exact .inr h2
  refine ⟨h1.same.grown hg (fun b hb => .inr (by have := rw_some.1 (rw_own hb); have := h.ga; omega)), ho, Own.keptBy h1.first hg (fun b hb hr => h.ne (by have := rw_some.1 (rw_own hb); subst this; exact hr)), h1.tl.grownR h1.all hg, h1.ftl.grownR h1.all hg, ?_, h.ff, fun hr => ?_⟩
  · have := h.ga
    omega
  · rcases hat2 with rfl | h2
    · exact h.ne hr
    · have := Own.row h1.first g hr
      omega
theorem QN.appB {u w wa wb : World} {GA CA n : Nat} {al : List Rw} {FA : Option Addr} {FC m : Nat} {bs us : List Rw} {ucs : List (List Int)} {vs : List Rw} {vcs : List (List Int)} (h : QN u w GA CA n al FA FC m bs us ucs vs vcs) {g C' m' : Nat} {bs' : List Rw} (hs : Same w wa) (hg : wa.grownBy wb (Value.slice FA m FC).ownBlock) (ho : OwnR wb (some ⟨g, 0, none⟩) m' C' bs')
    (hat : (FA = some ⟨g, 0, none⟩ ∧ C' = FC) ∨ (g = wa.heap.size ∧ wa.grownBy wb none)) : QN u wb GA CA n al (some ⟨g, 0, none⟩) C' m' bs' us ucs vs vcs := by
  have h1 := h.next hs
  have hsz := h1.same.size
  refine ⟨h1.same.grown hg (fun b hb => .inr (h.ff b (rw_own hb))), Own.keptBy h1.all hg (fun b hb hr => h.ne (by have := rw_some.1 hr; subst this; exact rw_own hb)), ho, h1.tl.grownR h1.first hg, h1.ftl.grownR h1.first hg, h.ga, ?_, fun hr => ?_⟩
  · rcases hat with ⟨h2, _⟩ | ⟨h2, _⟩
    · rw [← h2]; exact h.ff
    · exact fresh_some (by omega)
  · rcases hat with ⟨h2, _⟩ | ⟨h2, _⟩
    · exact h.ne (by rw [h2]; exact hr)
    · have := rw_some.1 hr
      have := Own.row h1.all GA ⟨_, rfl, rfl⟩
      omega
def csN (cs : List (List Int)) : Nat → List (List Int)
  | 0 => []
  | k + 1 => csN cs k ++ cs
theorem row_at {w : World} {g n C : Nat} {rs : List Rw} (h : OwnR w (some ⟨g, 0, none⟩) n C rs) {i : Nat} {r : Rw} (hi : rs[i]? = some r) : g < w.heap.size ∧ w.cell? ⟨g, i, none⟩ = some (.slice r.A r.N r.C) := by
  obtain ⟨b, off, hA, h1, h2⟩ := Rw.at1 (h.sl rcell_len) hi
  injection hA with hA
  injection hA with h3 h4
  subst h3 h4
  exact ⟨h1, by simpa using h2⟩
theorem inL_len (p : List Int) : (inL p).length ≤ 4096 := by
  unfold inL
  split
  · rename_i h
    have := (chk_ok.1 h).2
    rw [invL_len]
    omega
  · simp
theorem coL_len (p q : List Int) : (coL p q).length ≤ 4096 := by
  unfold coL
  split
  · rename_i h
    obtain ⟨_, _, h1, h2⟩ := both_ok h
    simp only [compL, List.length_map]
    omega
  · simp
theorem swL_len (p : List Int) (l : Int) : (swL p l).length ≤ 4096 := by
  unfold swL
  split
  · rename_i h
    unfold swE at h
    split at h
    · cases h
    · have := (chk_ok.1 h).2
      rw [swp_len]
      omega
  · simp
theorem paL_len (p q : List Int) : (paL p q).length ≤ 4096 := by
  unfold paL
  split
  · rename_i h
    obtain ⟨_, _, h1, h2⟩ := both_ok h
    unfold pathL
    exact pst_path64 h2 (by omega)
  · simp
theorem idR_len (n : Int) : (idR n).length ≤ 4096 := by
  unfold idR
  split
  · simp
  · rename_i h
    rw [rng_len]
    omega
theorem chL_len (n : Int) : (chL n).length ≤ 4096 := by
  unfold chL
  repeat' split
  all_goals simp
theorem csN_two (cs : List (List Int)) (h : cs.length = 6) {i : Nat} (hi : i < 6) : (csN cs 2)[i + 6]? = (csN cs 2)[i]? := by
  have e : csN cs 2 = cs ++ cs := by simp [csN]
  rw [e, List.getElem?_append_right (by omega), List.getElem?_append_left (by omega)]
  congr 1
  omega
/-- behind the first loop -/
structure ZN (h0 : Nat) (w : World) (GA CA : Nat) (al : List Rw) (gf FC : Nat) (fs ts : List Rw) (cs : List (List Int)) : Prop where
  all : OwnR w (some ⟨GA, 0, none⟩) 14 CA al
  first : OwnR w (some ⟨gf, 0, none⟩) 12 FC fs
  tl : TLi h0 w ts cs
  ftl : TLi h0 w fs cs
  ga : h0 ≤ GA
  gf : h0 ≤ gf
theorem ZN.next {h0 : Nat} {w w' : World} {GA CA : Nat} {al : List Rw} {gf FC : Nat} {fs ts : List Rw} {cs : List (List Int)} (h : ZN h0 w GA CA al gf FC fs ts cs) (hs : Same w w') : ZN h0 w' GA CA al gf FC fs ts cs :=
  ⟨Own.frm h.all hs (fun _ _ => id), Own.frm h.first hs (fun _ _ => id), h.tl.same hs, h.ftl.same hs, h.ga, h.gf⟩
theorem ZN.turn {h0 g : Nat} {w w' : World} {GA CA : Nat} {al : List Rw} {gf FC : Nat} {fs ts : List Rw} {cs : List (List Int)} (h : ZN h0 w GA CA al gf FC fs ts cs) (hs : Frm (fun b => b = g) w w') (hg : g < h0) : ZN h0 w' GA CA al gf FC fs ts cs :=
  ⟨frm_own h.all hs (fun b hb he => by have := rw_some.1 hb; have := h.ga; omega), frm_own h.first hs (fun b hb he => by have := rw_some.1 hb; have := h.gf; omega), h.tl.frm hs (fun i t hi b hb he => by have := h.tl.fresh i t hi b hb; omega), h.ftl.frm hs (fun i t hi b hb he => by have := h.ftl.fresh i t hi b hb; omega), h.ga, h.gf⟩
theorem two_cases {r1 r2 r : Rw} {ts : List Rw} {i : Nat} (h : ([r1, r2] ++ ts)[i]? = some r) : (i = 0 ∧ r = r1) ∨ (i = 1 ∧ r = r2) ∨ (2 ≤ i ∧ ts[i - 2]? = some r) := by
  match i, h with
  | 0, h => simp at h; exact .inl ⟨rfl, h.symm⟩
  | 1, h => simp at h; exact .inr (.inl ⟨rfl, h.symm⟩)
  | i + 2, h => exact .inr (.inr ⟨by omega, by simpa using h⟩)
theorem two_dis {h0 g1 g2 N1 C1 N2 C2 : Nat} {w : World} {ts : List Rw} {cs : List (List Int)} (h : TLi h0 w ts cs) (h12 : g1 < g2) (h2 : g2 < h0) : ∀ (i j : Nat) (r s : Rw), ([⟨some ⟨g1, 0, none⟩, N1, C1⟩, ⟨some ⟨g2, 0, none⟩, N2, C2⟩] ++ ts)[i]? = some r → ([⟨some ⟨g1, 0, none⟩, N1, C1⟩, ⟨some ⟨g2, 0, none⟩, N2, C2⟩] ++ ts)[j]? = some s → i ≠ j → ∀ b, rowOf r.A b → ¬ rowOf s.A b := by
  intro i j r s hi hj hne b hb hr
  rcases two_cases hi with ⟨a, rfl⟩ | ⟨a, rfl⟩ | ⟨a, a2⟩ <;> rcases two_cases hj with ⟨c, rfl⟩ | ⟨c, rfl⟩ | ⟨c, c2⟩
  · omega
  · have := rw_some.1 hb; have := rw_some.1 hr; omega
  · have := rw_some.1 hb; have := h.fresh _ _ c2 b hr; omega
  · have := rw_some.1 hb; have := rw_some.1 hr; omega
  · omega
  · have := rw_some.1 hb; have := h.fresh _ _ c2 b hr; omega
  · have := rw_some.1 hr; have := h.fresh _ _ a2 b hb; omega
  · have := rw_some.1 hr; have := h.fresh _ _ a2 b hb; omega
  · exact h.dis _ _ r s a2 c2 (by omega) b hb hr
theorem set_two {p zs : List Int} (h : 1 < p.length) (x y : Int) : ((p ++ zs).set 0 x).set 1 y = ((p.set 0 x).set 1 y) ++ zs := by
  rw [List.set_append_left _ _ (by omega), List.set_append_left _ _ (by rw [List.length_set]; omega)]
set_option maxRecDepth 100000 in
set_option maxHeartbeats 16000000 in
theorem memory_walk (Ap Aq : Option Addr) (Lp Lq Cp Cq : Nat) (p q : List Int) (l n : Int) (w : World) (hp : IL w Ap Lp p) (hq : IL w Aq Lq q) (hrp : Lp * 8 ≤ 140737488351232) (hrq : Lq * 8 ≤ 140737488351232) :
    Calls Try.prog 10 #[.slice Ap Lp Cp, .slice Aq Lq Cq, .int .i64 l, .int .i64 n] w fun e w' => e = .returned (.bool true) ∧ Below w.heap.size w w' := by
  obtain rfl := hp.len
  obtain rfl := hq.len
  have HP := Lib.hid hp
  have HQ := Lib.hid hq
  clear hp hq
  go_enter Try.func10, Try.ntmps10
  go_wp2_with (fail)
  refine (awake_any w).mono ?_
  rintro e w1 ⟨rfl, hs1⟩
  have HS1 := Lib.hid hs1
  clear hs1
  go_wp2_with (fail)
  refine (spare_any Ap p.length Cp p w1 (Sl.same HP.out HS1.out) hrp).mono ?_
  rintro e w2 ⟨g1, C1, rfl, ho1, hg1, hs⟩
  have HS2 := Lib.hid (HS1.out.trans hs (fun _ _ h => h))
  have HO1 := Lib.hid ho1
  have hg0 : w.heap.size ≤ g1 := Nat.le_trans HS1.out.size hg1
  have hg2 : g1 < w2.heap.size := Own.row ho1 g1 ⟨_, rfl, rfl⟩
  clear hs ho1
  go_wp2_with (fail)
  refine (spare_any Aq q.length Cq q w2 (Sl.same HQ.out HS2.out) hrq).mono ?_
  rintro e u ⟨g2, C2, rfl, ho2, hg3, hs⟩
  have HS := Lib.hid (HS2.out.trans hs (fun _ _ h => h))
  replace HO1 := Lib.hid (Own.frm HO1.out hs (fun _ _ => id))
  have HO2 := Lib.hid ho2
  have hgu : g2 < u.heap.size := Own.row ho2 g2 ⟨_, rfl, rfl⟩
  have hg12 : g1 < g2 := by omega
  have hC1 : p.length + 9 ≤ C1 := Own.cap HO1.out
  have hC1' : p.length ≤ C1 := by omega
  clear hs ho2 HS1 HS2 hg1 hg2 hg3
  have HA := Lib.hid (Own.il (Own.front (xs := p) (ys := spn 9) icell_len HO1.out))
  have HB := Lib.hid (Own.il (Own.front (xs := q) (ys := spn 9) icell_len HO2.out))
  have hc : ∀ w', Same u w' → Calls Try.prog 18 #[.slice (some ⟨g1, 0, none⟩) p.length C1] w' (RetE w' (inL p) (chk p)) := fun w' hs => inverse_any _ _ C1 p w' (Sl.same HA.out hs) hrp
  have hl0 := inL_len p
  generalize inL p = c0 at hc hl0
  generalize chk p = e0 at hc
  have H0 := Lib.hid hc
  clear hc
  have hc : ∀ w', Same u w' → Calls Try.prog 13 #[.slice (some ⟨g1, 0, none⟩) p.length C1, .slice (some ⟨g2, 0, none⟩) q.length C2] w' (RetE w' (coL p q) (both p q)) := fun w' hs => compose_any _ _ _ _ C1 C2 p q w' (Sl.same HA.out hs) (Sl.same HB.out hs) hrp hrq
  have hl1 := coL_len p q
  generalize coL p q = c1 at hc hl1
  generalize both p q = e1 at hc
  have H1 := Lib.hid hc
  clear hc
  have hc : ∀ w', Same u w' → Calls Try.prog 22 #[.slice (some ⟨g1, 0, none⟩) p.length C1, .int .i64 l] w' (RetE w' (swL p l) (swE p l)) := fun w' hs => swapped_any _ _ C1 p l w' (Sl.same HA.out hs) hrp
  have hl2 := swL_len p l
  generalize swL p l = c2 at hc hl2
  generalize swE p l = e2 at hc
  have H2 := Lib.hid hc
  clear hc
  have hc : ∀ w', Same u w' → Calls Try.prog 15 #[.slice (some ⟨g1, 0, none⟩) p.length C1, .slice (some ⟨g2, 0, none⟩) q.length C2] w' (RetE w' (paL p q) (both p q)) := fun w' hs => path_any _ _ _ _ C1 C2 p q w' (Sl.same HA.out hs) (Sl.same HB.out hs) hrp hrq
  have hl3 := paL_len p q
  generalize paL p q = c3 at hc hl3
  generalize both p q = e3 at hc
  have H3 := Lib.hid hc
  clear hc
  have hc : ∀ w', Same u w' → Calls Try.prog 19 #[.int .i64 n] w' (RetE w' (idR n) (idE n)) := fun w' hs => Identity_any n w'
  have hl4 := idR_len n
  generalize idR n = c4 at hc hl4
  generalize idE n = e4 at hc
  have H4 := Lib.hid hc
  clear hc
  have hc : ∀ w', Same u w' → Calls Try.prog 20 #[.int .i64 n] w' (RetE w' (chL n) (chE n)) := fun w' hs => changes_any n w'
  have hl5 := chL_len n
  generalize chL n = c5 at hc hl5
  generalize chE n = e5 at hc
  have H5 := Lib.hid hc
  clear hc
  go_upto_region 6 with fail
  refine wp_world fun v0 hw => ?_
  have hs : Same u v0 := by rw [hw]; exact (Frm.refl _ _).alloc _
  have hLL := Own.lit u 22 rcell rcell_len [⟨some ⟨g1, 0, none⟩, p.length + 9, C1⟩, ⟨some ⟨g2, 0, none⟩, q.length + 9, C2⟩] (by simp [maxLen]) (cs := #[.slice (some ⟨g1, 0, none⟩) (p.length + 9) C1, .slice (some ⟨g2, 0, none⟩) (q.length + 9) C2]) rfl
  rw [← hw] at hLL
  simp only [List.length_cons, List.length_nil, Nat.zero_add, Nat.reduceAdd] at hLL
  have HQN := Lib.hid (show QN u v0 u.heap.size 2 (2 + 6 * 0) ([⟨some ⟨g1, 0, none⟩, p.length + 9, C1⟩, ⟨some ⟨g2, 0, none⟩, q.length + 9, C2⟩] ++ []) none 0 (6 * 0) [] [] (csN [c0, c1, c2, c3, c4, c5] 0) [] (csN [c0, c1, c2, c3, c4, c5] 0) from ⟨hs, hLL, Own.nil _ _ _ _, TLi.nil _ _, TLi.nil _ _, Nat.le_refl _, fresh_none _, fun ⟨a, ha, _⟩ => by cases ha⟩)
  obtain ⟨GA, hGA⟩ : ∃ z, z = u.heap.size := ⟨_, rfl⟩
  have HGA := Lib.hid hGA
  clear hw hs hLL hGA
  go_wp2
  go_loopw [13, 14, 15] (fun a f i wi => ∃ (k GA CA : Nat) (FA : Option Addr) (FC : Nat) (ts fs : List Rw), k ≤ 2 ∧ i = .int .i64 k ∧ a = .slice (some ⟨GA, 0, none⟩) (2 + 6 * k) CA ∧ f = .slice FA (6 * k) FC ∧ QN u wi GA CA (2 + 6 * k) ([⟨some ⟨g1, 0, none⟩, p.length + 9, C1⟩, ⟨some ⟨g2, 0, none⟩, q.length + 9, C2⟩] ++ ts) FA FC (6 * k) fs ts (csN [c0, c1, c2, c3, c4, c5] k) fs (csN [c0, c1, c2, c3, c4, c5] k)) (fun _ _ i _ => 2 - (intOf i).toNat)
  case atStart => exact ⟨0, u.heap.size, 2, none, 0, [], [], by omega, rfl, rfl, rfl, HQN.out⟩
  case round =>
    clear HQN HGA
    obtain ⟨k, GA, CA, FA, FC, ts, fs, hk, rfl, rfl, rfl, hqn⟩ := hrel
    have HN := Lib.hid hqn
    clear hqn
    by_cases hlt : k < 2
    · have hk1 : (k : Int) < 2 := by omega
      obtain ⟨x0, rfl⟩ : ∃ z, z = wr := ⟨_, rfl⟩
      go_wp2_with (fail)
      refine (H0.out x0 HN.out.same).mono ?_
      rintro e x1 ⟨A0, D0, rfl, hNT⟩
      replace HN := Lib.hid (HN.out.callU hNT)
      clear hNT
      go_wp2_with (fail)
      refine (H1.out x1 HN.out.same).mono ?_
      rintro e x2 ⟨A1, D1, rfl, hNT⟩
      replace HN := Lib.hid (HN.out.callU hNT)
      clear hNT
      go_wp2_with (fail)
      refine (H2.out x2 HN.out.same).mono ?_
      rintro e x3 ⟨A2, D2, rfl, hNT⟩
      replace HN := Lib.hid (HN.out.callU hNT)
      clear hNT
      go_wp2_with (fail)
      refine (H3.out x3 HN.out.same).mono ?_
      rintro e x4 ⟨A3, D3, rfl, hNT⟩
      replace HN := Lib.hid (HN.out.callU hNT)
      clear hNT
      go_wp2_with (fail)
      refine (H4.out x4 HN.out.same).mono ?_
      rintro e x5 ⟨A4, D4, rfl, hNT⟩
      replace HN := Lib.hid (HN.out.callU hNT)
      clear hNT
      go_wp2_with (fail)
      refine (H5.out x5 HN.out.same).mono ?_
      rintro e x6 ⟨A5, D5, rfl, hNT⟩
      replace HN := Lib.hid (HN.out.callU hNT)
      clear hNT
      go_wp2_with (fail)
      refine (inversions_any _ _ C1 p x6 (Sl.same HA.out HN.out.same) hrp).mono ?_
      rintro e x7 ⟨rfl, hs⟩
      replace HN := Lib.hid (HN.out.next hs)
      clear hs
      go_wp2_with (fail)
      refine (rank_any _ _ C1 p x7 (Sl.same HA.out HN.out.same) hrp hC1').mono ?_
      rintro e x8 ⟨rfl, hs⟩
      replace HN := Lib.hid (HN.out.next hs)
      clear hs
      go_wp2_with (fail)
      refine (check_any _ _ C1 p x8 (Sl.same HA.out HN.out.same) hrp).mono ?_
      rintro e x9 ⟨rfl, hs⟩
      replace HN := Lib.hid (HN.out.next hs)
      clear hs
      go_upto_region 19 with fail
      refine wp_region_lit ?_
      refine wpList_read 7 ?_
      simp only [List.take_succ_cons, List.take_zero, List.drop_succ_cons, List.drop_zero]
      repeat (any_goals (first | go_big_quiet_step (fail) | quiet_step (fail)))
      refine wpQuiet_nil ?_
      refine wpList_plain rfl fun K hK => ?_
      go_simp
      refine hK _ _ ?_
      clear hK K
      refine list_world fun wc hwc => ?_
      have hsc : Same x9 wc := by rw [hwc]; exact (Frm.refl _ _).alloc _
      have hNc := Blk.new x9 22 #[.slice A0 c0.length D0, .slice A1 c1.length D1, .slice A2 c2.length D2, .slice A3 c3.length D3, .slice A4 c4.length D4, .slice A5 c5.length D5]
      rw [← hwc] at hNc
      clear hwc
      refine wpList_plain rfl fun K hK => ?_
      refine Own.grow (f := rcell) (.tmp 92) (.tmp 99) _ rfl Try.underlying55 info_sl rfl rfl (Own.frm HN.out.all hsc (fun _ _ => id)) rcell_len [⟨A0, c0.length, D0⟩, ⟨A1, c1.length, D1⟩, ⟨A2, c2.length, D2⟩, ⟨A3, c3.length, D3⟩, ⟨A4, c4.length, D4⟩, ⟨A5, c5.length, D5⟩] (by simp) ⟨x9.heap.size, 0, none⟩ 6 rfl (fun j u hj => news_of_blk hNc j u hj) (by simp [rcell, Value.oneCell']) (by simp [maxLen] <;> omega) (by simp <;> omega) ?_
      intro g C' y0 hOd _ hgr hat
      refine hK _ _ ?_
      clear hK K
      simp only [List.length_cons, List.length_nil, Nat.zero_add, Nat.reduceAdd] at hOd ⊢
      replace HN := Lib.hid (HN.out.appA hsc hgr hOd hat)
      clear hOd hgr hat hsc hNc
      go_upto_region 20 with fail
      refine wp_region_lit ?_
      refine wpList_read 2 ?_
      simp only [List.take_succ_cons, List.take_zero, List.drop_succ_cons, List.drop_zero]
      repeat (any_goals (first | go_big_quiet_step (fail) | quiet_step (fail)))
      refine wpQuiet_nil ?_
      refine wpList_plain rfl fun K hK => ?_
      go_simp
      have hN0 := HN.out.tl.own (ts.length + 0) ⟨A0, c0.length, D0⟩ (by simp)
      refine (twin_any A0 c0.length D0 c0 y0 ?hil0 (by omega)).mono ?_
      case hil0 =>
        obtain ⟨c, hc, ho⟩ := hN0
        have hcl := HN.out.tl.len
        simp only [List.length_append, List.length_cons, List.length_nil] at hcl
        have hck : (csN [c0, c1, c2, c3, c4, c5] k).length = ts.length := by omega
        rw [← hck] at hc
        simp at hc
        subst hc
        exact Own.il ho
      rintro e y1 ⟨E0, F0, rfl, hNT⟩
      refine hK _ _ ?_
      clear hK K hN0
      replace HN := Lib.hid (HN.out.callV hNT)
      clear hNT
      refine wpList_read 1 ?_
      simp only [List.take_succ_cons, List.take_zero, List.drop_succ_cons, List.drop_zero]
      repeat (any_goals (first | go_big_quiet_step (fail) | quiet_step (fail)))
      refine wpQuiet_nil ?_
      refine wpList_plain rfl fun K hK => ?_
      go_simp
      have hN1 := HN.out.tl.own (ts.length + 1) ⟨A1, c1.length, D1⟩ (by simp)
      refine (twin_any A1 c1.length D1 c1 y1 ?hil1 (by omega)).mono ?_
      case hil1 =>
        obtain ⟨c, hc, ho⟩ := hN1
        have hcl := HN.out.tl.len
        simp only [List.length_append, List.length_cons, List.length_nil] at hcl
        have hck : (csN [c0, c1, c2, c3, c4, c5] k).length = ts.length := by omega
        rw [← hck] at hc
        simp at hc
        subst hc
        exact Own.il ho
      rintro e y2 ⟨E1, F1, rfl, hNT⟩
      refine hK _ _ ?_
      clear hK K hN1
      replace HN := Lib.hid (HN.out.callV hNT)
      clear hNT
      refine wpList_read 1 ?_
      simp only [List.take_succ_cons, List.take_zero, List.drop_succ_cons, List.drop_zero]
      repeat (any_goals (first | go_big_quiet_step (fail) | quiet_step (fail)))
      refine wpQuiet_nil ?_
      refine wpList_plain rfl fun K hK => ?_
      go_simp
      have hN2 := HN.out.tl.own (ts.length + 2) ⟨A2, c2.length, D2⟩ (by simp)
      refine (twin_any A2 c2.length D2 c2 y2 ?hil2 (by omega)).mono ?_
      case hil2 =>
        obtain ⟨c, hc, ho⟩ := hN2
        have hcl := HN.out.tl.len
        simp only [List.length_append, List.length_cons, List.length_nil] at hcl
        have hck : (csN [c0, c1, c2, c3, c4, c5] k).length = ts.length := by omega
        rw [← hck] at hc
        simp at hc
        subst hc
        exact Own.il ho
      rintro e y3 ⟨E2, F2, rfl, hNT⟩
      refine hK _ _ ?_
      clear hK K hN2
      replace HN := Lib.hid (HN.out.callV hNT)
      clear hNT
      refine wpList_read 1 ?_
      simp only [List.take_succ_cons, List.take_zero, List.drop_succ_cons, List.drop_zero]
      repeat (any_goals (first | go_big_quiet_step (fail) | quiet_step (fail)))
      refine wpQuiet_nil ?_
      refine wpList_plain rfl fun K hK => ?_
      go_simp
      have hN3 := HN.out.tl.own (ts.length + 3) ⟨A3, c3.length, D3⟩ (by simp)
      refine (twin_any A3 c3.length D3 c3 y3 ?hil3 (by omega)).mono ?_
      case hil3 =>
        obtain ⟨c, hc, ho⟩ := hN3
        have hcl := HN.out.tl.len
        simp only [List.length_append, List.length_cons, List.length_nil] at hcl
        have hck : (csN [c0, c1, c2, c3, c4, c5] k).length = ts.length := by omega
        rw [← hck] at hc
        simp at hc
        subst hc
        exact Own.il ho
      rintro e y4 ⟨E3, F3, rfl, hNT⟩
      refine hK _ _ ?_
      clear hK K hN3
      replace HN := Lib.hid (HN.out.callV hNT)
      clear hNT
      refine wpList_read 1 ?_
      simp only [List.take_succ_cons, List.take_zero, List.drop_succ_cons, List.drop_zero]
      repeat (any_goals (first | go_big_quiet_step (fail) | quiet_step (fail)))
      refine wpQuiet_nil ?_
      refine wpList_plain rfl fun K hK => ?_
      go_simp
      have hN4 := HN.out.tl.own (ts.length + 4) ⟨A4, c4.length, D4⟩ (by simp)
      refine (twin_any A4 c4.length D4 c4 y4 ?hil4 (by omega)).mono ?_
      case hil4 =>
        obtain ⟨c, hc, ho⟩ := hN4
        have hcl := HN.out.tl.len
        simp only [List.length_append, List.length_cons, List.length_nil] at hcl
        have hck : (csN [c0, c1, c2, c3, c4, c5] k).length = ts.length := by omega
        rw [← hck] at hc
        simp at hc
        subst hc
        exact Own.il ho
      rintro e y5 ⟨E4, F4, rfl, hNT⟩
      refine hK _ _ ?_
      clear hK K hN4
      replace HN := Lib.hid (HN.out.callV hNT)
      clear hNT
      refine wpList_read 1 ?_
      simp only [List.take_succ_cons, List.take_zero, List.drop_succ_cons, List.drop_zero]
      repeat (any_goals (first | go_big_quiet_step (fail) | quiet_step (fail)))
      refine wpQuiet_nil ?_
      refine wpList_plain rfl fun K hK => ?_
      go_simp
      have hN5 := HN.out.tl.own (ts.length + 5) ⟨A5, c5.length, D5⟩ (by simp)
      refine (twin_any A5 c5.length D5 c5 y5 ?hil5 (by omega)).mono ?_
      case hil5 =>
        obtain ⟨c, hc, ho⟩ := hN5
        have hcl := HN.out.tl.len
        simp only [List.length_append, List.length_cons, List.length_nil] at hcl
        have hck : (csN [c0, c1, c2, c3, c4, c5] k).length = ts.length := by omega
        rw [← hck] at hc
        simp at hc
        subst hc
        exact Own.il ho
      rintro e y6 ⟨E5, F5, rfl, hNT⟩
      refine hK _ _ ?_
      clear hK K hN5
      replace HN := Lib.hid (HN.out.callV hNT)
      clear hNT
      refine wpList_plain rfl fun K hK => ?_
      go_simp
      refine hK _ _ ?_
      clear hK K
      refine list_world fun wc hwc => ?_
      have hsc : Same y6 wc := by rw [hwc]; exact (Frm.refl _ _).alloc _
      have hNc := Blk.new y6 22 #[.slice E0 c0.length F0, .slice E1 c1.length F1, .slice E2 c2.length F2, .slice E3 c3.length F3, .slice E4 c4.length F4, .slice E5 c5.length F5]
      rw [← hwc] at hNc
      clear hwc
      refine wpList_plain rfl fun K hK => ?_
      refine Own.grow (f := rcell) (.tmp 101) (.tmp 114) _ rfl Try.underlying55 info_sl rfl rfl (Own.frm HN.out.first hsc (fun _ _ => id)) rcell_len [⟨E0, c0.length, F0⟩, ⟨E1, c1.length, F1⟩, ⟨E2, c2.length, F2⟩, ⟨E3, c3.length, F3⟩, ⟨E4, c4.length, F4⟩, ⟨E5, c5.length, F5⟩] (by simp) ⟨y6.heap.size, 0, none⟩ 6 rfl (fun j u hj => news_of_blk hNc j u hj) (by simp [rcell, Value.oneCell']) (by simp [maxLen] <;> omega) (by simp <;> omega) ?_
      intro g' D' wz hOd _ hgr hat
      refine hK _ _ ?_
      clear hK K
      simp only [List.length_cons, List.length_nil, Nat.zero_add, Nat.reduceAdd] at hOd ⊢
      replace HN := Lib.hid (HN.out.appB hsc hgr hOd hat)
      clear hOd hgr hat hsc hNc
      have hfin : QN u wz g C' (2 + 6 * (k + 1)) ([⟨some ⟨g1, 0, none⟩, p.length + 9, C1⟩, ⟨some ⟨g2, 0, none⟩, q.length + 9, C2⟩] ++ (ts ++ [⟨A0, c0.length, D0⟩, ⟨A1, c1.length, D1⟩, ⟨A2, c2.length, D2⟩, ⟨A3, c3.length, D3⟩, ⟨A4, c4.length, D4⟩, ⟨A5, c5.length, D5⟩])) (some ⟨g', 0, none⟩) D' (6 * (k + 1)) (fs ++ [⟨E0, c0.length, F0⟩, ⟨E1, c1.length, F1⟩, ⟨E2, c2.length, F2⟩, ⟨E3, c3.length, F3⟩, ⟨E4, c4.length, F4⟩, ⟨E5, c5.length, F5⟩]) (ts ++ [⟨A0, c0.length, D0⟩, ⟨A1, c1.length, D1⟩, ⟨A2, c2.length, D2⟩, ⟨A3, c3.length, D3⟩, ⟨A4, c4.length, D4⟩, ⟨A5, c5.length, D5⟩]) (csN [c0, c1, c2, c3, c4, c5] (k + 1)) (fs ++ [⟨E0, c0.length, F0⟩, ⟨E1, c1.length, F1⟩, ⟨E2, c2.length, F2⟩, ⟨E3, c3.length, F3⟩, ⟨E4, c4.length, F4⟩, ⟨E5, c5.length, F5⟩]) (csN [c0, c1, c2, c3, c4, c5] (k + 1)) := by
        have h := HN.out
        have e1 : 2 + 6 * (k + 1) = 2 + 6 * k + 6 := by omega
        have e2 : 6 * (k + 1) = 6 * k + 6 := by omega
        rw [e1, e2]
        simp only [List.append_assoc, List.cons_append, List.nil_append] at h
        simp only [csN, List.cons_append, List.nil_append]
        exact h
      have HF := Lib.hid hfin
      clear hfin HN
      go_wp2
      go_roundw
      case rel => exact ⟨k + 1, g, C', some ⟨g', 0, none⟩, D', _, _, by omega, by go_num, by go_num, by go_num, HF.out⟩
      case measure => simp [intOf] <;> omega
    · obtain rfl : k = 2 := by omega
      obtain ⟨gf, hFA, _⟩ := HN.out.first.form (by decide)
      subst hFA
      simp only [Nat.reduceMul, Nat.reduceAdd] at HN ⊢
      obtain ⟨v1, rfl⟩ : ∃ z, z = wr := ⟨_, rfl⟩
      have HCL := Lib.hid (show ∀ (i : Nat) (c : List Int), (csN [c0, c1, c2, c3, c4, c5] 2)[i]? = some c → c.length ≤ 4096 from fun i c hi => by
        have hm := List.mem_of_getElem? hi
        simp only [csN, List.nil_append, List.mem_append, List.mem_cons, List.not_mem_nil, or_false] at hm
        rcases hm with (rfl | rfl | rfl | rfl | rfl | rfl) | rfl | rfl | rfl | rfl | rfl | rfl <;> assumption)
      obtain ⟨cs, hcs⟩ : ∃ z, z = csN [c0, c1, c2, c3, c4, c5] 2 := ⟨_, rfl⟩
      have HC2 := Lib.hid (show ∀ i, i < 6 → cs[i + 6]? = cs[i]? from fun i hi => by rw [hcs]; exact csN_two _ rfl hi)
      rw [← hcs] at HN HCL
      clear hcs H0 H1 H2 H3 H4 H5
      go_wp2_with (fail)
      refine (kept_any Ap p.length Cp p g1 C1 v1 (Sl.same HP.out (HS.out.trans HN.out.same (fun _ _ h => h))) hrp (Own.frm HO1.out HN.out.same (fun _ _ => id))).mono ?_
      rintro e v2 ⟨rfl, hs⟩
      replace HN := Lib.hid (HN.out.next hs)
      clear hs
      go_wp2_with (fail)
      refine (kept_any Aq q.length Cq q g2 C2 v2 (Sl.same HQ.out (HS.out.trans HN.out.same (fun _ _ h => h))) hrq (Own.frm HO2.out HN.out.same (fun _ _ => id))).mono ?_
      rintro e v3 ⟨rfl, hs⟩
      replace HN := Lib.hid (HN.out.next hs)
      clear hs
      go_wp2
      go_loopw [28] (fun q wi => ∃ i : Nat, i ≤ 6 ∧ q = .int .i64 i ∧ Same v3 wi) (fun q _ => 6 - (intOf q).toNat)
      case atStart => exact ⟨0, by omega, rfl, Frm.refl _ _⟩
      case round =>
        obtain ⟨i, hi, rfl, hs⟩ := hrel
        by_cases hl6 : i < 6
        · have hqn := HN.out.next hs
          have hfl := hqn.first.len
          obtain ⟨r1, hr1⟩ : ∃ r, fs[i]? = some r := ⟨_, List.getElem?_eq_getElem (by omega)⟩
          obtain ⟨r2, hr2⟩ : ∃ r, fs[i + 6]? = some r := ⟨_, List.getElem?_eq_getElem (by omega)⟩
          obtain ⟨a1, b1⟩ := row_at hqn.first hr1
          obtain ⟨a2, b2⟩ := row_at hqn.first hr2
          obtain ⟨c, hc1, ho1⟩ := hqn.ftl.own i r1 hr1
          obtain ⟨c', hc2, ho2⟩ := hqn.ftl.own (i + 6) r2 hr2
          have hcl := HCL.out i c hc1
          rw [HC2.out i hl6, hc1] at hc2
          injection hc2 with hc2
          subst hc2
          have hi0 : (0 : Int) ≤ i := by omega
          have hi1 : (i : Int) < 6 := by omega
          have hi2 : (i : Int) < 12 := by omega
          have hi3 : (i : Int) + 6 < 12 := by omega
          have hwr1 : IntKind.i64.wrap ((i : Int) + 6) = (i : Int) + 6 := IntWalk.i64_in _ (by omega)
          clear hqn hfl hr1 hr2 hc1 a2
          obtain ⟨A1, N1, D1⟩ := r1
          obtain ⟨A2, N2, D2⟩ := r2
          simp only at b1 b2 ho1 ho2
          have l1 := ho1.len
          have l2 := ho2.len
          subst l1
          subst l2
          have HSM := Lib.hid (fun w h1 h2 => same_eq A1 A2 c.length D1 D2 c w h1 h2 (by omega))
          have HI1 := Lib.hid (Own.il ho1)
          have HI2 := Lib.hid (Own.il ho2)
          have HS2 := Lib.hid hs
          clear ho1 ho2 hs
          go_upto_region 26 with fail
          refine wp_quiet (by kernel_rfl) (by kernel_rfl) ?_
          repeat (any_goals (first | go_big_quiet_step ((go_at_call 17; exact quiet_call (HSM.out _ (Sl.same HI1.out (more_same _ _)) (Sl.same HI2.out (more_same _ _))))) | quiet_step ((go_at_call 17; exact quiet_call (HSM.out _ (Sl.same HI1.out (more_same _ _)) (Sl.same HI2.out (more_same _ _)))))))
          refine wpQuiet_nil ?_
          rintro wy ⟨q, hq⟩
          have hsz : Same wr wy := by rw [hq]; exact more_same _ q
          clear hq
          go_wp2
          go_roundw
          case rel => exact ⟨i + 1, by omega, by go_num, HS2.out.trans hsz (fun _ _ h => h)⟩
          case measure => simp [intOf] <;> omega
        · obtain rfl : i = 6 := by omega
          replace HN := Lib.hid (HN.out.next hs)
          clear hs
          obtain ⟨v4, rfl⟩ : ∃ z, z = wr := ⟨_, rfl⟩
          go_wp2_with (fail)
          refine (inverse_any _ _ C1 p v4 (Sl.same HA.out HN.out.same) hrp).mono ?_
          rintro e v5 ⟨Ai, Di, rfl, hNT⟩
          replace HN := Lib.hid (HN.out.next hNT.2.2)
          clear hNT
          have HZ := Lib.hid (show ZN u.heap.size v5 GA CA _ gf FC fs ts cs from ⟨HN.out.all, HN.out.first, HN.out.tl, HN.out.ftl, HN.out.ga, HN.out.ff gf ⟨_, rfl, rfl⟩⟩)
          replace HS := Lib.hid (HS.out.trans HN.out.same (fun _ _ h => h))
          replace HO1 := Lib.hid (Own.frm HO1.out HN.out.same (fun _ _ => id))
          replace HO2 := Lib.hid (Own.frm HO2.out HN.out.same (fun _ _ => id))
          clear HN HA HB HP HQ
          by_cases hlen : 1 < p.length
          · obtain ⟨x0, hx0⟩ : ∃ x, p[0]? = some x := ⟨_, List.getElem?_eq_getElem (by omega)⟩
            obtain ⟨x1, hx1⟩ : ∃ x, p[1]? = some x := ⟨_, List.getElem?_eq_getElem (by omega)⟩
            obtain ⟨s0, h0, hgl, ca⟩ := Own.at1 (c := fun x : Int => .int .i64 x) HO1.out (i := 0) (x := x0) (by rw [List.getElem?_append_left (by omega)]; exact hx0)
            injection h0 with h0
            injection h0 with h0
            subst h0
            obtain ⟨s0, h0, _, cb⟩ := Own.at1 (c := fun x : Int => .int .i64 x) HO1.out (i := 1) (x := x1) (by rw [List.getElem?_append_left (by omega)]; exact hx1)
            injection h0 with h0
            injection h0 with h0
            subst h0
            have fa := HO1.out.free 0
            have fb := HO1.out.free 1
            have hw1 : (1 : Int) < p.length := by omega
            have hw2 : (0 : Int) < p.length := by omega
            have hw3 : 0 < p.length := by omega
            clear hx0 hx1
            go_upto_region 30 with fail
            go_region
            have h1 := Own.put1 (c := fun x : Int => .int .i64 x) HO1.out (i := 0) (by simp <;> omega) x1
            have h2 := Own.put1 (c := fun x : Int => .int .i64 x) h1 (i := 1) (by simp <;> omega) x0
            rw [set_two hlen] at h2
            obtain ⟨p', hp'⟩ : ∃ z, z = (p.set 0 x1).set 1 x0 := ⟨_, rfl⟩
            have hpl : p'.length = p.length := by rw [hp']; simp
            rw [← hp'] at h2
            have hft : Frm (fun b => b = g1) v5 ((v5.setCell ⟨g1, 0, none⟩ (.int .i64 x1)).setCell ⟨g1, 1, none⟩ (.int .i64 x0)).drew := (((Frm.refl (fun b => b = g1) _).set 0 _ rfl).set 1 _ rfl).drew
            have h3 : OwnN ((v5.setCell ⟨g1, 0, none⟩ (.int .i64 x1)).setCell ⟨g1, 1, none⟩ (.int .i64 x0)).drew (some ⟨g1, 0, none⟩) (p.length + 9) C1 (p' ++ spn 9) := Own.frm h2 ((Frm.refl (fun _ => False) _).drew) (fun _ _ => id)
            generalize ((v5.setCell ⟨g1, 0, none⟩ (.int .i64 x1)).setCell ⟨g1, 1, none⟩ (.int .i64 x0)).drew = t0 at h3 hft ⊢
            replace HZ := Lib.hid (HZ.out.turn hft (by omega))
            replace HS := Lib.hid (HS.out.trans hft (fun i hi (h : i = g1) => by omega))
            replace HO2 := Lib.hid (frm_own HO2.out hft (fun b hb he => by have := rw_some.1 hb; omega))
            replace HO1 := Lib.hid h3
            clear h1 h2 h3 hft hp' hgl ca cb fa fb hw1 hw2 hw3 hlen
            obtain ⟨ec, hec⟩ : ∃ z, z = chk p' := ⟨_, rfl⟩
            have HEC := Lib.hid hec
            have hiq := inL_len p'
            obtain ⟨iv, hiv⟩ : ∃ z, z = inL p' := ⟨_, rfl⟩
            have HIV := Lib.hid hiv
            rw [← hiv] at hiq
            clear hec hiv
            have HCI := Lib.hid (show ∀ w', IL w' (some ⟨g1, 0, none⟩) p.length p' → Calls Try.prog 18 #[.slice (some ⟨g1, 0, none⟩) p.length C1] w' (RetE w' iv ec) from fun w' h => by rw [HEC.out, HIV.out]; exact inverse_any _ _ C1 p' w' h hrp)
            have HCD := Lib.hid (show ∀ A C w', IL w' A p.length p' → Calls Try.prog 23 #[.slice A p.length C] w' (RetE w' iv ec) from fun A C w' h => by rw [HEC.out, HIV.out]; exact docInverse_any A _ C p' w' h hrp)
            have HCT := Lib.hid (show ∀ w', IL w' (some ⟨g1, 0, none⟩) p.length p' → Calls Try.prog 35 #[.slice (some ⟨g1, 0, none⟩) p.length C1] w' (fun e w2 => ∃ A C, e = .returned (.slice A p.length C) ∧ OwnN w2 A p.length C p' ∧ Same w' w2) from fun w' h => (twin_any _ _ C1 p' w' h hrp).mono fun e w2 ⟨A, C, h1, h2⟩ => by
              have h3 := h2.1
              rw [hpl] at h1 h3
              exact ⟨A, C, h1, h3, h2.2.2⟩)
            go_wp2_with (fail)
            refine (HCI.out t0 (by have := Own.il (Own.front (xs := p') (ys := spn 9) icell_len HO1.out); rw [hpl] at this; exact this)).mono ?_
            rintro e t1 ⟨Ai, Di, rfl, hNT⟩
            have HI1 := Lib.hid hNT.1
            replace HZ := Lib.hid (HZ.out.next hNT.2.2)
            replace HS := Lib.hid (HS.out.trans hNT.2.2 (fun _ _ h => h))
            replace HO1 := Lib.hid (Own.frm HO1.out hNT.2.2 (fun _ _ => id))
            replace HO2 := Lib.hid (Own.frm HO2.out hNT.2.2 (fun _ _ => id))
            clear hNT
            go_wp2_with (fail)
            refine (HCT.out t1 (by have := Own.il (Own.front (xs := p') (ys := spn 9) icell_len HO1.out); rw [hpl] at this; exact this)).mono ?_
            rintro e t2 ⟨At, Dt, rfl, hot, hs⟩
            replace HI1 := Lib.hid (Own.frm HI1.out hs (fun _ _ => id))
            have HOT := Lib.hid (Own.il hot)
            replace HZ := Lib.hid (HZ.out.next hs)
            replace HS := Lib.hid (HS.out.trans hs (fun _ _ h => h))
            replace HO1 := Lib.hid (Own.frm HO1.out hs (fun _ _ => id))
            replace HO2 := Lib.hid (Own.frm HO2.out hs (fun _ _ => id))
            clear hs hot
            go_wp2_with (fail)
            refine (HCD.out At Dt t2 HOT.out).mono ?_
            rintro e t3 ⟨Aj, Dj, rfl, hNT⟩
            have HI2 := Lib.hid hNT.1
            replace HI1 := Lib.hid (Own.frm HI1.out hNT.2.2 (fun _ _ => id))
            replace HZ := Lib.hid (HZ.out.next hNT.2.2)
            replace HS := Lib.hid (HS.out.trans hNT.2.2 (fun _ _ h => h))
            replace HO1 := Lib.hid (Own.frm HO1.out hNT.2.2 (fun _ _ => id))
            replace HO2 := Lib.hid (Own.frm HO2.out hNT.2.2 (fun _ _ => id))
            clear hNT
            go_wp2_with (fail)
            refine (same_eq Ai Aj iv.length Di Dj iv t3 (Own.il HI1.out) (Own.il HI2.out) (by omega)).mono ?_
            rintro e t4 ⟨rfl, hs⟩
            replace HZ := Lib.hid (HZ.out.next hs)
            replace HS := Lib.hid (HS.out.trans hs (fun _ _ h => h))
            replace HO1 := Lib.hid (Own.frm HO1.out hs (fun _ _ => id))
            replace HO2 := Lib.hid (Own.frm HO2.out hs (fun _ _ => id))
            clear hs HI1 HI2 HCI HCD HCT HEC HIV hiq
            go_wp2_with (fail)
            refine (over_any g1 (p.length + 9) C1 _ t4 HO1.out (by omega)).mono ?_
            rintro e t5 ⟨rfl, hf, ys1, ho⟩
            replace HZ := Lib.hid (HZ.out.turn hf (by omega))
            replace HS := Lib.hid (HS.out.trans hf (fun i hi (h : i = g1) => by omega))
            replace HO1 := Lib.hid ho
            replace HO2 := Lib.hid (frm_own HO2.out hf (fun b hb he => by have := rw_some.1 hb; omega))
            clear hf ho
            go_wp2_with (fail)
            refine (over_any g2 (q.length + 9) C2 _ t5 HO2.out (by omega)).mono ?_
            rintro e t6 ⟨rfl, hf, ys2, ho⟩
            replace HZ := Lib.hid (HZ.out.turn hf (by omega))
            replace HS := Lib.hid (HS.out.trans hf (fun i hi (h : i = g2) => by omega))
            replace HO2 := Lib.hid ho
            replace HO1 := Lib.hid (frm_own HO1.out hf (fun b hb he => by have := rw_some.1 hb; omega))
            clear hf ho
            go_wp2
            go_loopw [33] (fun q wi => ∃ i : Nat, i ≤ 12 ∧ q = .int .i64 i ∧ Same t6 wi) (fun q _ => 12 - (intOf q).toNat)
            case atStart => exact ⟨0, by omega, rfl, Frm.refl _ _⟩
            case round =>
              obtain ⟨i, hi, rfl, hs⟩ := hrel
              by_cases hl12 : i < 12
              · have hzn := HZ.out.next hs
                have hfl := hzn.first.len
                have hal := hzn.all.len
                simp only [List.length_append, List.length_cons, List.length_nil] at hal
                obtain ⟨r1, hr1⟩ : ∃ r, ts[i]? = some r := ⟨_, List.getElem?_eq_getElem (by omega)⟩
                obtain ⟨r2, hr2⟩ : ∃ r, fs[i]? = some r := ⟨_, List.getElem?_eq_getElem (by omega)⟩
                obtain ⟨a1, b1⟩ := row_at hzn.all (i := 2 + i) (r := r1) (by rw [List.getElem?_append_right (by simp)]; simpa [Nat.add_comm 2 i] using hr1)
                obtain ⟨a2, b2⟩ := row_at hzn.first hr2
                obtain ⟨c, hc1, ho1⟩ := hzn.tl.own i r1 hr1
                obtain ⟨c', hc2, ho2⟩ := hzn.ftl.own i r2 hr2
                have hcl := HCL.out i c hc1
                rw [hc1] at hc2
                injection hc2 with hc2
                subst hc2
                have hi0 : (0 : Int) ≤ i := by omega
                have hi1 : (i : Int) < 12 := by omega
                have hi3 : 2 + (i : Int) < 14 := by omega
                have hi4 : 0 ≤ 2 + (i : Int) := by omega
                have hwr1 : IntKind.i64.wrap (2 + (i : Int)) = 2 + (i : Int) := IntWalk.i64_in _ (by omega)
                clear hzn hfl hal hr1 hr2 hc1
                obtain ⟨A1, N1, D1⟩ := r1
                obtain ⟨A2, N2, D2⟩ := r2
                simp only at b1 b2 ho1 ho2
                have l1 := ho1.len
                have l2 := ho2.len
                subst l1
                subst l2
                have HSM := Lib.hid (fun w h1 h2 => same_eq A1 A2 c.length D1 D2 c w h1 h2 (by omega))
                have HI1 := Lib.hid (Own.il ho1)
                have HI2 := Lib.hid (Own.il ho2)
                have HS2 := Lib.hid hs
                clear ho1 ho2 hs
                go_upto_region 40 with fail
                refine wp_quiet (by kernel_rfl) (by kernel_rfl) ?_
                repeat (any_goals (first | go_big_quiet_step ((go_at_call 17; exact quiet_call (HSM.out _ (Sl.same HI1.out (more_same _ _)) (Sl.same HI2.out (more_same _ _))))) | quiet_step ((go_at_call 17; exact quiet_call (HSM.out _ (Sl.same HI1.out (more_same _ _)) (Sl.same HI2.out (more_same _ _)))))))
                refine wpQuiet_nil ?_
                rintro wy ⟨q, hq⟩
                have hsz : Same wr wy := by rw [hq]; exact more_same _ q
                clear hq
                go_wp2
                go_roundw
                case rel => exact ⟨i + 1, by omega, by go_num, HS2.out.trans hsz (fun _ _ h => h)⟩
                case measure => simp [intOf] <;> omega
              · obtain rfl : i = 12 := by omega
                replace HZ := Lib.hid (HZ.out.next hs)
                replace HS := Lib.hid (HS.out.trans hs (fun _ _ h => h))
                replace HO1 := Lib.hid (Own.frm HO1.out hs (fun _ _ => id))
                replace HO2 := Lib.hid (Own.frm HO2.out hs (fun _ _ => id))
                clear hs
                obtain ⟨t7, rfl⟩ : ∃ z, z = wr := ⟨_, rfl⟩
                have HAP := Lib.hid (apart_any (some ⟨GA, 0, none⟩) 14 CA _ t7 (HZ.out.all.sl rcell_len) (by omega) (fun i r hi => by
                  rcases two_cases hi with ⟨_, rfl⟩ | ⟨_, rfl⟩ | ⟨_, h2⟩
                  · exact ⟨_, HO1.out⟩
                  · exact ⟨_, HO2.out⟩
                  · obtain ⟨c, _, ho⟩ := HZ.out.tl.own _ r h2
                    exact ⟨c, ho⟩) (two_dis HZ.out.tl hg12 hgu) (fun b hb i r hi hr => by
                  rcases two_cases hi with ⟨_, rfl⟩ | ⟨_, rfl⟩ | ⟨_, h2⟩
                  · exact Own.ne_own HO1.out HZ.out.all (by decide) b hr hb
                  · exact Own.ne_own HO2.out HZ.out.all (by decide) b hr hb
                  · obtain ⟨c, _, ho⟩ := HZ.out.tl.own _ r h2
                    exact Own.ne_own ho HZ.out.all (by decide) b hr hb) (fun i r hi => by
                  rcases two_cases hi with ⟨_, rfl⟩ | ⟨_, rfl⟩ | ⟨_, h2⟩
                  · show (p.length + 9) * 8 ≤ _; omega
                  · show (q.length + 9) * 8 ≤ _; omega
                  · obtain ⟨c, h3, ho⟩ := HZ.out.tl.own _ r h2
                    have := HCL.out _ c h3
                    have := ho.len
                    omega))
                go_wp2_with (fail)
                refine HAP.out.mono ?_
                rintro e wz ⟨rfl, hf⟩
                have HB := Lib.hid ((HS.out.trans hf (fun b hb ⟨i, r, h1, h2⟩ => by
                  rcases two_cases h1 with ⟨_, rfl⟩ | ⟨_, rfl⟩ | ⟨_, h3⟩
                  · have := rw_some.1 h2; omega
                  · have := rw_some.1 h2; omega
                  · have := HZ.out.tl.fresh _ r h3 b h2; omega)).to_below (Nat.le_refl _) (fun _ _ => id))
                clear hf
                go_wp2
                go_ret
                exact ⟨rfl, HB.out⟩
          · have hw1 : ¬ (1 : Int) < p.length := by omega
            go_upto_region 31 with fail
            obtain ⟨t0, rfl⟩ : ∃ z, z = v5 := ⟨_, rfl⟩
            obtain ⟨p', hp'⟩ : ∃ z, z = p := ⟨_, rfl⟩
            have hpl : p'.length = p.length := by rw [hp']
            have HP1 := HO1
            replace HO1 := Lib.hid (show OwnN t0 (some ⟨g1, 0, none⟩) (p.length + 9) C1 (p' ++ spn 9) by rw [hp']; exact HP1.out)
            clear HP1 hp' hw1 hlen
            obtain ⟨ec, hec⟩ : ∃ z, z = chk p' := ⟨_, rfl⟩
            have HEC := Lib.hid hec
            have hiq := inL_len p'
            obtain ⟨iv, hiv⟩ : ∃ z, z = inL p' := ⟨_, rfl⟩
            have HIV := Lib.hid hiv
            rw [← hiv] at hiq
            clear hec hiv
            have HCI := Lib.hid (show ∀ w', IL w' (some ⟨g1, 0, none⟩) p.length p' → Calls Try.prog 18 #[.slice (some ⟨g1, 0, none⟩) p.length C1] w' (RetE w' iv ec) from fun w' h => by rw [HEC.out, HIV.out]; exact inverse_any _ _ C1 p' w' h hrp)
            have HCD := Lib.hid (show ∀ A C w', IL w' A p.length p' → Calls Try.prog 23 #[.slice A p.length C] w' (RetE w' iv ec) from fun A C w' h => by rw [HEC.out, HIV.out]; exact docInverse_any A _ C p' w' h hrp)
            have HCT := Lib.hid (show ∀ w', IL w' (some ⟨g1, 0, none⟩) p.length p' → Calls Try.prog 35 #[.slice (some ⟨g1, 0, none⟩) p.length C1] w' (fun e w2 => ∃ A C, e = .returned (.slice A p.length C) ∧ OwnN w2 A p.length C p' ∧ Same w' w2) from fun w' h => (twin_any _ _ C1 p' w' h hrp).mono fun e w2 ⟨A, C, h1, h2⟩ => by
              have h3 := h2.1
              rw [hpl] at h1 h3
              exact ⟨A, C, h1, h3, h2.2.2⟩)
            go_wp2_with (fail)
            refine (HCI.out t0 (by have := Own.il (Own.front (xs := p') (ys := spn 9) icell_len HO1.out); rw [hpl] at this; exact this)).mono ?_
            rintro e t1 ⟨Ai, Di, rfl, hNT⟩
            have HI1 := Lib.hid hNT.1
            replace HZ := Lib.hid (HZ.out.next hNT.2.2)
            replace HS := Lib.hid (HS.out.trans hNT.2.2 (fun _ _ h => h))
            replace HO1 := Lib.hid (Own.frm HO1.out hNT.2.2 (fun _ _ => id))
            replace HO2 := Lib.hid (Own.frm HO2.out hNT.2.2 (fun _ _ => id))
            clear hNT
            go_wp2_with (fail)
            refine (HCT.out t1 (by have := Own.il (Own.front (xs := p') (ys := spn 9) icell_len HO1.out); rw [hpl] at this; exact this)).mono ?_
            rintro e t2 ⟨At, Dt, rfl, hot, hs⟩
            replace HI1 := Lib.hid (Own.frm HI1.out hs (fun _ _ => id))
            have HOT := Lib.hid (Own.il hot)
            replace HZ := Lib.hid (HZ.out.next hs)
            replace HS := Lib.hid (HS.out.trans hs (fun _ _ h => h))
            replace HO1 := Lib.hid (Own.frm HO1.out hs (fun _ _ => id))
            replace HO2 := Lib.hid (Own.frm HO2.out hs (fun _ _ => id))
            clear hs hot
            go_wp2_with (fail)
            refine (HCD.out At Dt t2 HOT.out).mono ?_
            rintro e t3 ⟨Aj, Dj, rfl, hNT⟩
            have HI2 := Lib.hid hNT.1
            replace HI1 := Lib.hid (Own.frm HI1.out hNT.2.2 (fun _ _ => id))
            replace HZ := Lib.hid (HZ.out.next hNT.2.2)
            replace HS := Lib.hid (HS.out.trans hNT.2.2 (fun _ _ h => h))
            replace HO1 := Lib.hid (Own.frm HO1.out hNT.2.2 (fun _ _ => id))
            replace HO2 := Lib.hid (Own.frm HO2.out hNT.2.2 (fun _ _ => id))
            clear hNT
            go_wp2_with (fail)
            refine (same_eq Ai Aj iv.length Di Dj iv t3 (Own.il HI1.out) (Own.il HI2.out) (by omega)).mono ?_
            rintro e t4 ⟨rfl, hs⟩
            replace HZ := Lib.hid (HZ.out.next hs)
            replace HS := Lib.hid (HS.out.trans hs (fun _ _ h => h))
            replace HO1 := Lib.hid (Own.frm HO1.out hs (fun _ _ => id))
            replace HO2 := Lib.hid (Own.frm HO2.out hs (fun _ _ => id))
            clear hs HI1 HI2 HCI HCD HCT HEC HIV hiq
            go_wp2_with (fail)
            refine (over_any g1 (p.length + 9) C1 _ t4 HO1.out (by omega)).mono ?_
            rintro e t5 ⟨rfl, hf, ys1, ho⟩
            replace HZ := Lib.hid (HZ.out.turn hf (by omega))
            replace HS := Lib.hid (HS.out.trans hf (fun i hi (h : i = g1) => by omega))
            replace HO1 := Lib.hid ho
            replace HO2 := Lib.hid (frm_own HO2.out hf (fun b hb he => by have := rw_some.1 hb; omega))
            clear hf ho
            go_wp2_with (fail)
            refine (over_any g2 (q.length + 9) C2 _ t5 HO2.out (by omega)).mono ?_
            rintro e t6 ⟨rfl, hf, ys2, ho⟩
            replace HZ := Lib.hid (HZ.out.turn hf (by omega))
            replace HS := Lib.hid (HS.out.trans hf (fun i hi (h : i = g2) => by omega))
            replace HO2 := Lib.hid ho
            replace HO1 := Lib.hid (frm_own HO1.out hf (fun b hb he => by have := rw_some.1 hb; omega))
            clear hf ho
            go_wp2
            go_loopw [33] (fun q wi => ∃ i : Nat, i ≤ 12 ∧ q = .int .i64 i ∧ Same t6 wi) (fun q _ => 12 - (intOf q).toNat)
            case atStart => exact ⟨0, by omega, rfl, Frm.refl _ _⟩
            case round =>
              obtain ⟨i, hi, rfl, hs⟩ := hrel
              by_cases hl12 : i < 12
              · have hzn := HZ.out.next hs
                have hfl := hzn.first.len
                have hal := hzn.all.len
                simp only [List.length_append, List.length_cons, List.length_nil] at hal
                obtain ⟨r1, hr1⟩ : ∃ r, ts[i]? = some r := ⟨_, List.getElem?_eq_getElem (by omega)⟩
                obtain ⟨r2, hr2⟩ : ∃ r, fs[i]? = some r := ⟨_, List.getElem?_eq_getElem (by omega)⟩
                obtain ⟨a1, b1⟩ := row_at hzn.all (i := 2 + i) (r := r1) (by rw [List.getElem?_append_right (by simp)]; simpa [Nat.add_comm 2 i] using hr1)
                obtain ⟨a2, b2⟩ := row_at hzn.first hr2
                obtain ⟨c, hc1, ho1⟩ := hzn.tl.own i r1 hr1
                obtain ⟨c', hc2, ho2⟩ := hzn.ftl.own i r2 hr2
                have hcl := HCL.out i c hc1
                rw [hc1] at hc2
                injection hc2 with hc2
                subst hc2
                have hi0 : (0 : Int) ≤ i := by omega
                have hi1 : (i : Int) < 12 := by omega
                have hi3 : 2 + (i : Int) < 14 := by omega
                have hi4 : 0 ≤ 2 + (i : Int) := by omega
                have hwr1 : IntKind.i64.wrap (2 + (i : Int)) = 2 + (i : Int) := IntWalk.i64_in _ (by omega)
                clear hzn hfl hal hr1 hr2 hc1
                obtain ⟨A1, N1, D1⟩ := r1
                obtain ⟨A2, N2, D2⟩ := r2
                simp only at b1 b2 ho1 ho2
                have l1 := ho1.len
                have l2 := ho2.len
                subst l1
                subst l2
                have HSM := Lib.hid (fun w h1 h2 => same_eq A1 A2 c.length D1 D2 c w h1 h2 (by omega))
                have HI1 := Lib.hid (Own.il ho1)
                have HI2 := Lib.hid (Own.il ho2)
                have HS2 := Lib.hid hs
                clear ho1 ho2 hs
                go_upto_region 40 with fail
                refine wp_quiet (by kernel_rfl) (by kernel_rfl) ?_
                repeat (any_goals (first | go_big_quiet_step ((go_at_call 17; exact quiet_call (HSM.out _ (Sl.same HI1.out (more_same _ _)) (Sl.same HI2.out (more_same _ _))))) | quiet_step ((go_at_call 17; exact quiet_call (HSM.out _ (Sl.same HI1.out (more_same _ _)) (Sl.same HI2.out (more_same _ _)))))))
                refine wpQuiet_nil ?_
                rintro wy ⟨q, hq⟩
                have hsz : Same wr wy := by rw [hq]; exact more_same _ q
                clear hq
                go_wp2
                go_roundw
                case rel => exact ⟨i + 1, by omega, by go_num, HS2.out.trans hsz (fun _ _ h => h)⟩
                case measure => simp [intOf] <;> omega
              · obtain rfl : i = 12 := by omega
                replace HZ := Lib.hid (HZ.out.next hs)
                replace HS := Lib.hid (HS.out.trans hs (fun _ _ h => h))
                replace HO1 := Lib.hid (Own.frm HO1.out hs (fun _ _ => id))
                replace HO2 := Lib.hid (Own.frm HO2.out hs (fun _ _ => id))
                clear hs
                obtain ⟨t7, rfl⟩ : ∃ z, z = wr := ⟨_, rfl⟩
                have HAP := Lib.hid (apart_any (some ⟨GA, 0, none⟩) 14 CA _ t7 (HZ.out.all.sl rcell_len) (by omega) (fun i r hi => by
                  rcases two_cases hi with ⟨_, rfl⟩ | ⟨_, rfl⟩ | ⟨_, h2⟩
                  · exact ⟨_, HO1.out⟩
                  · exact ⟨_, HO2.out⟩
                  · obtain ⟨c, _, ho⟩ := HZ.out.tl.own _ r h2
                    exact ⟨c, ho⟩) (two_dis HZ.out.tl hg12 hgu) (fun b hb i r hi hr => by
                  rcases two_cases hi with ⟨_, rfl⟩ | ⟨_, rfl⟩ | ⟨_, h2⟩
                  · exact Own.ne_own HO1.out HZ.out.all (by decide) b hr hb
                  · exact Own.ne_own HO2.out HZ.out.all (by decide) b hr hb
                  · obtain ⟨c, _, ho⟩ := HZ.out.tl.own _ r h2
                    exact Own.ne_own ho HZ.out.all (by decide) b hr hb) (fun i r hi => by
                  rcases two_cases hi with ⟨_, rfl⟩ | ⟨_, rfl⟩ | ⟨_, h2⟩
                  · show (p.length + 9) * 8 ≤ _; omega
                  · show (q.length + 9) * 8 ≤ _; omega
                  · obtain ⟨c, h3, ho⟩ := HZ.out.tl.own _ r h2
                    have := HCL.out _ c h3
                    have := ho.len
                    omega))
                go_wp2_with (fail)
                refine HAP.out.mono ?_
                rintro e wz ⟨rfl, hf⟩
                have HB := Lib.hid ((HS.out.trans hf (fun b hb ⟨i, r, h1, h2⟩ => by
                  rcases two_cases h1 with ⟨_, rfl⟩ | ⟨_, rfl⟩ | ⟨_, h3⟩
                  · have := rw_some.1 h2; omega
                  · have := rw_some.1 h2; omega
                  · have := HZ.out.tl.fresh _ r h3 b h2; omega)).to_below (Nat.le_refl _) (fun _ _ => id))
                clear hf
                go_wp2
                go_ret
                exact ⟨rfl, HB.out⟩
end Go.Proofs.Ytibjpclmiaimaaa


/- The walk of PmMem beside the given rows. -/
