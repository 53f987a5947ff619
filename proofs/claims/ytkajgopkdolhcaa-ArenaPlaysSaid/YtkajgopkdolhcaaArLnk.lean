/- The arena's list and the reference's: how they hang together. Plain. -/
import Derived.Test.YtkajgopkdolhcaaArRTake
namespace Go.Proofs.Ytkajgopkdolhcaa
open Go.RowKit Go.Tk

theorem fnd_none {es : List Pe} {r : Int} (h : ∀ (n : Nat) (e : Pe), es[n]? = some e → e.r ≠ r) : fndI es r = -1 := by
  have hf : fndN es r = es.length := by
    unfold fndN
    rw [List.findIdx_eq_length]
    intro x hx
    obtain ⟨j, hj, rfl⟩ := List.getElem_of_mem hx
    simp [h j _ (List.getElem?_eq_getElem hj)]
  unfold fndI
  rw [hf, if_neg (by omega)]
theorem fnd_some {es : List Pe} {n : Nat} {e : Pe} (he : es[n]? = some e) (h : ∀ (m : Nat) (f : Pe), m < n → es[m]? = some f → f.r ≠ e.r) : fndI es e.r = n := by
  have hlt := lt_of_get he
  have hf : fndN es e.r = n := by
    unfold fndN
    rw [List.findIdx_eq hlt]
    rw [List.getElem?_eq_getElem hlt] at he
    injection he with he
    refine ⟨by rw [he]; simp, fun j hj => ?_⟩
    simp [h j _ hj (List.getElem?_eq_getElem (by omega))]
  unfold fndI
  rw [hf, if_pos hlt]
theorem fnd_cases (es : List Pe) (r : Int) : (fndI es r = -1 ∧ ∀ (n : Nat) (e : Pe), es[n]? = some e → e.r ≠ r) ∨ ∃ (n : Nat) (e : Pe), fndI es r = (n : Nat) ∧ es[n]? = some e ∧ e.r = r := by
  by_cases h : fndN es r < es.length
  · right
    refine ⟨fndN es r, es[fndN es r], by unfold fndI; rw [if_pos h], List.getElem?_eq_getElem h, ?_⟩
    have := List.findIdx_getElem (xs := es) (p := fun e : Pe => decide (e.r = r)) (w := h)
    exact of_decide_eq_true this
  · left
    have hn : fndI es r = -1 := by unfold fndI; rw [if_neg h]
    refine ⟨hn, fun n e he heq => ?_⟩
    have h1 : fndN es r = es.length := by
      have := List.findIdx_le_length (xs := es) (p := fun e : Pe => decide (e.r = r))
      unfold fndN at h ⊢
      omega
    unfold fndN at h1
    rw [List.findIdx_eq_length] at h1
    have := h1 e (List.mem_of_getElem? he)
    simp [heq] at this

structure ALnk (pl us : Int) (ls : List Pl) (fr : List Int) (es : List Pe) : Prop where
  h0 : ls[0]? = some (cpl 0)
  h1 : ls[1]? = some (cpl 1)
  tak : ∀ (r : Nat) (p : Pl), 2 ≤ r → ls[r]? = some p → p.t = true → ∃ n : Nat, es[n]? = some ⟨r, p.n, p.c⟩
  ent : ∀ (n : Nat) (e : Pe), es[n]? = some e → ∃ (r : Nat) (p : Pl), 2 ≤ r ∧ e.r = r ∧ ls[r]? = some p ∧ p.t = true ∧ p.n = e.n ∧ p.c = e.c
  inj : ∀ (n m : Nat) (e f : Pe), es[n]? = some e → es[m]? = some f → e.r = f.r → n = m
  free : ∀ (i : Nat) (r : Int), fr[i]? = some r → ∃ (k : Nat) (p : Pl), r = k ∧ 2 ≤ k ∧ ls[k]? = some p ∧ p.t = false
  finj : ∀ (i j : Nat) (r : Int), fr[i]? = some r → fr[j]? = some r → i = j
  cnt : ∀ p : Pl, p ∈ ls → 0 ≤ p.c ∧ p.c ≤ 255
  us : us = es.length + 2
  len : ls.length = 2 + es.length + fr.length
  pl0 : 2 ≤ pl
  pl1 : pl ≤ 1048576
  room : ls.length ≤ pl

section
variable {pl us : Int} {ls : List Pl} {fr : List Int} {es : List Pe}
theorem ALnk.start (h0 : 2 ≤ pl) (h1 : pl ≤ 1048576) : ALnk pl 2 l01 [] [] := by
  refine ⟨rfl, rfl, ?_, by simp, by simp, by simp, by simp, ?_, rfl, rfl, h0, h1, by simpa [l01] using h0⟩
  · intro r p hr hp
    match r with
    | 0 => omega
    | 1 => omega
    | r + 2 => simp [l01] at hp
  · intro p hp
    simp only [l01, List.mem_cons, List.not_mem_nil, or_false] at hp
    rcases hp with rfl | rfl <;> decide
/-- where a place of the arena's stands with the reference -/
theorem ALnk.taken (h : ALnk pl us ls fr es) {r : Nat} {p : Pl} (hr : 2 ≤ r) (hp : ls[r]? = some p) (ht : p.t = true) : ∃ n : Nat, fndI es r = (n : Nat) ∧ es[n]? = some ⟨r, p.n, p.c⟩ := by
  obtain ⟨n, hn⟩ := h.tak r p hr hp ht
  exact ⟨n, fnd_some hn (fun m f hm hf heq => by have := h.inj m n f _ hf hn heq; omega), hn⟩
theorem ALnk.gone (h : ALnk pl us ls fr es) {r : Nat} (_hr : 2 ≤ r) (ht : tk ls r = false) : fndI es r = -1 := by
  refine fnd_none fun n e he heq => ?_
  obtain ⟨r', p, _, h2, h3, h4, _⟩ := h.ent n e he
  have : r = r' := by omega
  subst this
  simp [tk, h3, h4] at ht
theorem ALnk.tk_eq (h : ALnk pl us ls fr es) {r : Int} (hr : 0 ≤ r) : tk ls r = rtk es r := by
  obtain ⟨n, rfl⟩ := Int.eq_ofNat_of_zero_le hr
  match n with
  | 0 => simp [tk, rtk, h.h0, cpl]
  | 1 => simp [tk, rtk, h.h1, cpl]
  | n + 2 =>
    cases ht : tk ls ((n + 2 : Nat) : Int) with
    | false =>
      have := h.gone (r := n + 2) (by omega) ht
      unfold rtk
      rw [this]
      simp
      omega
    | true =>
      obtain ⟨p, hp, hpt⟩ := tk_get (r := n + 2) ht
      obtain ⟨k, hk, _⟩ := h.taken (by omega) hp hpt
      unfold rtk
      rw [hk]
      simp
theorem ALnk.ck_eq (h : ALnk pl us ls fr es) {n : Nd} (hl : 0 ≤ n.lo) (hh : 0 ≤ n.hi) : ckN ls n = rnode es n := by
  unfold ckN rnode
  rw [h.tk_eq hl, h.tk_eq hh]
/-- a place, as the two see it -/
theorem ALnk.place_cases (h : ALnk pl us ls fr es) (r : Int) (hr : 0 ≤ r) :
    (∃ k : Nat, r = k ∧ k < 2 ∧ ls[k]? = some (cpl k) ∧ tk ls r = true ∧ ownE ls r = 3) ∨ (∃ k : Nat, r = k ∧ 2 ≤ k ∧ tk ls r = false ∧ fndI es r = -1 ∧ ownE ls r = 3) ∨
      (∃ (k : Nat) (p : Pl) (n : Nat), r = k ∧ 2 ≤ k ∧ ls[k]? = some p ∧ p.t = true ∧ fndI es r = n ∧ es[n]? = some ⟨r, p.n, p.c⟩ ∧ tk ls r = true ∧ ownE ls r = 0) := by
  obtain ⟨n, rfl⟩ := Int.eq_ofNat_of_zero_le hr
  match n with
  | 0 => exact .inl ⟨0, rfl, by omega, h.h0, by simp [tk, h.h0, cpl], by simp [ownE]⟩
  | 1 => exact .inl ⟨1, rfl, by omega, h.h1, by simp [tk, h.h1, cpl], by simp [ownE]⟩
  | n + 2 =>
    right
    cases ht : tk ls ((n + 2 : Nat) : Int) with
    | false => exact .inl ⟨n + 2, rfl, by omega, rfl, h.gone (by omega) ht, by unfold ownE; rw [ht, if_pos (.inr rfl)]⟩
    | true =>
      obtain ⟨p, hp, hpt⟩ := tk_get (r := n + 2) ht
      obtain ⟨k, hk, hk2⟩ := h.taken (by omega) hp hpt
      exact .inr ⟨n + 2, p, k, rfl, by omega, hp, hpt, hk, hk2, rfl, by unfold ownE; rw [ht, if_neg (by simp; omega)]⟩
theorem getElem?_snoc {α : Type} {l : List α} {x y : α} {i : Nat} (h : (l ++ [x])[i]? = some y) : l[i]? = some y ∨ i = l.length ∧ y = x := by
  rw [List.getElem?_append] at h
  split at h
  · exact .inl h
  · rename_i hi
    right
    have : i < l.length + 1 := by
      rcases Nat.lt_or_ge i (l.length + 1) with h' | h'
      · exact h'
      · rw [List.getElem?_eq_none (by simp; omega)] at h; cases h
    have hi : i = l.length := by omega
    subst hi
    simp at h
    exact ⟨rfl, h.symm⟩
theorem snoc_old {α : Type} {l : List α} {x y : α} {i : Nat} (h : l[i]? = some y) : (l ++ [x])[i]? = some y := by
  rw [List.getElem?_append_left (lt_of_get h)]; exact h
theorem ALnk.pop {r : Int} (h : ALnk pl us ls (fr ++ [r]) es) (n : Nd) : ∃ k : Nat, r = k ∧ 2 ≤ k ∧ k < ls.length ∧ fndI es r = -1 ∧ (es.length : Int) + 2 < pl ∧ ALnk pl (us + 1) (ls.set k ⟨n, true, 0⟩) fr (es ++ [⟨r, n, 0⟩]) := by
  obtain ⟨k, p, rfl, hk, hp, hpt⟩ := h.free fr.length r (by simp)
  have hkl := lt_of_get hp
  have hf : fndI es k = -1 := h.gone hk (by simp [tk, hp, hpt])
  have hlen := h.len
  have hroom := h.room
  simp at hlen
  refine ⟨k, rfl, hk, hkl, hf, by omega, ?_, ?_, ?_, ?_, ?_, ?_, ?_, ?_, ?_, ?_, h.pl0, h.pl1, by simpa using hroom⟩
  · rw [List.getElem?_set_ne (by omega)]; exact h.h0
  · rw [List.getElem?_set_ne (by omega)]; exact h.h1
  · intro r p' hr hp' ht
    rw [List.getElem?_set] at hp'
    split at hp'
    · rename_i hkr
      subst hkr
      injection hp' with hp'
      subst hp'
      exact ⟨es.length, by simp⟩
    · obtain ⟨n, hn⟩ := h.tak r p' hr hp' ht
      exact ⟨n, snoc_old hn⟩
  · intro m e he
    rcases getElem?_snoc he with he | ⟨_, rfl⟩
    · obtain ⟨r', p', h1, h2, h3, h4, h5⟩ := h.ent m e he
      refine ⟨r', p', h1, h2, ?_, h4, h5⟩
      rw [List.getElem?_set_ne, h3]
      rintro rfl
      rw [hp] at h3
      injection h3 with h3
      subst h3
      rw [hpt] at h4
      cases h4
    · exact ⟨k, ⟨n, true, 0⟩, hk, rfl, by simp [hkl], rfl, rfl, rfl⟩
  · intro a b e f he hf' heq
    rcases getElem?_snoc he with he | ⟨ha, rfl⟩
    · rcases getElem?_snoc hf' with hf' | ⟨hb, rfl⟩
      · exact h.inj a b e f he hf' heq
      · exfalso
        rcases fnd_cases es k with ⟨_, h2⟩ | ⟨m, _, h2, _⟩
        · exact h2 a e he heq
        · omega
    · rcases getElem?_snoc hf' with hf' | ⟨hb, rfl⟩
      · exfalso
        rcases fnd_cases es k with ⟨_, h2⟩ | ⟨m, _, h2, _⟩
        · exact h2 b f hf' heq.symm
        · omega
      · omega
  · intro i r hr
    obtain ⟨k', p', h1, h2, h3, h4⟩ := h.free i r (snoc_old hr)
    refine ⟨k', p', h1, h2, ?_, h4⟩
    rw [List.getElem?_set_ne, h3]
    rintro rfl
    have := h.finj i fr.length (k : Int) (by rw [← h1]; exact snoc_old hr) (by simp)
    have := lt_of_get hr
    omega
  · intro i j r hi hj
    exact h.finj i j r (snoc_old hi) (snoc_old hj)
  · intro p' hp'
    rcases List.mem_or_eq_of_mem_set hp' with hp' | rfl
    · exact h.cnt p' hp'
    · exact ⟨by simp, by simp⟩
  · have := h.us
    simp
    omega
  · simp; omega
theorem ALnk.push (h : ALnk pl us ls [] es) (n : Nd) (hf : (ls.length : Int) < pl) : fndI es ls.length = -1 ∧ ALnk pl (us + 1) (ls ++ [⟨n, true, 0⟩]) [] (es ++ [⟨ls.length, n, 0⟩]) := by
  have hlen := h.len
  have hg : fndI es ls.length = -1 := h.gone (by omega) (by simp [tk])
  refine ⟨hg, snoc_old h.h0, snoc_old h.h1, ?_, ?_, ?_, by simp, by simp, ?_, ?_, ?_, h.pl0, h.pl1, by simp; omega⟩
  · intro r p hr hp ht
    rcases getElem?_snoc hp with hp | ⟨rfl, rfl⟩
    · obtain ⟨m, hm⟩ := h.tak r p hr hp ht
      exact ⟨m, snoc_old hm⟩
    · exact ⟨es.length, by simp⟩
  · intro m e he
    rcases getElem?_snoc he with he | ⟨_, rfl⟩
    · obtain ⟨r', p', h1, h2, h3, h4⟩ := h.ent m e he
      exact ⟨r', p', h1, h2, snoc_old h3, h4⟩
    · exact ⟨ls.length, ⟨n, true, 0⟩, by omega, rfl, by simp, rfl, rfl, rfl⟩
  · intro a b e f he hf' heq
    have key : ∀ (a : Nat) (e : Pe), es[a]? = some e → e.r ≠ ls.length := fun a e he heq => by
      obtain ⟨r', p', h1, h2, h3, h4⟩ := h.ent a e he
      have := lt_of_get h3
      omega
    rcases getElem?_snoc he with he | ⟨ha, rfl⟩
    · rcases getElem?_snoc hf' with hf' | ⟨hb, rfl⟩
      · exact h.inj a b e f he hf' heq
      · exact absurd heq (key a e he)
    · rcases getElem?_snoc hf' with hf' | ⟨hb, rfl⟩
      · exact absurd heq.symm (key b f hf')
      · omega
  · intro p hp
    rcases List.mem_append.1 hp with hp | hp
    · exact h.cnt p hp
    · simp at hp; subst hp; exact ⟨by simp, by simp⟩
  · have := h.us; simp; omega
  · simp at hlen ⊢; omega
theorem drop_get {α : Type} {l : List α} {n i : Nat} (hn : n < l.length) : (l.take n ++ l.drop (n + 1))[i]? = if i < n then l[i]? else l[i + 1]? := by
  rw [List.getElem?_append, List.length_take, Nat.min_eq_left (by omega)]
  split
  · rename_i h; rw [List.getElem?_take, if_pos h]
  · rw [List.getElem?_drop]; congr 1; omega
theorem ALnk.del {n k : Nat} {p : Pl} (h : ALnk pl us ls fr es) (hk : 2 ≤ k) (hp : ls[k]? = some p) (hpt : p.t = true) (hn : es[n]? = some ⟨k, p.n, p.c⟩) :
    ALnk pl (us - 1) (ls.set k zPl) (fr ++ [(k : Int)]) (es.take n ++ es.drop (n + 1)) := by
  have hnl := lt_of_get hn
  have hkl := lt_of_get hp
  have hlen := h.len
  have hroom := h.room
  refine ⟨?_, ?_, ?_, ?_, ?_, ?_, ?_, ?_, ?_, ?_, h.pl0, h.pl1, by simpa using hroom⟩
  · rw [List.getElem?_set_ne (by omega)]; exact h.h0
  · rw [List.getElem?_set_ne (by omega)]; exact h.h1
  · intro r p' hr hp' ht
    rw [List.getElem?_set] at hp'
    split at hp'
    · injection hp' with hp'
      subst hp'
      cases ht
    · rename_i hkr
      obtain ⟨m, hm⟩ := h.tak r p' hr hp' ht
      rcases Nat.lt_trichotomy m n with hc | hc | hc
      · exact ⟨m, by rw [drop_get hnl, if_pos hc]; exact hm⟩
      · subst hc
        rw [hn] at hm
        injection hm with hm
        injection hm with hm
        omega
      · exact ⟨m - 1, by rw [drop_get hnl, if_neg (by omega), show m - 1 + 1 = m by omega]; exact hm⟩
  · intro m e he
    rw [drop_get hnl] at he
    have key : ∀ m : Nat, m ≠ n → es[m]? = some e → ∃ (r : Nat) (p' : Pl), 2 ≤ r ∧ e.r = r ∧ (ls.set k zPl)[r]? = some p' ∧ p'.t = true ∧ p'.n = e.n ∧ p'.c = e.c := by
      intro m hmn he
      obtain ⟨r', p', h1, h2, h3, h4⟩ := h.ent m e he
      refine ⟨r', p', h1, h2, ?_, h4⟩
      rw [List.getElem?_set_ne, h3]
      rintro rfl
      exact hmn (h.inj m n e _ he hn h2)
    split at he
    · exact key m (by omega) he
    · exact key (m + 1) (by omega) he
  · intro a b e f he hf heq
    rw [drop_get hnl] at he hf
    split at he <;> split at hf <;> have := h.inj _ _ _ _ he hf heq <;> omega
  · intro i r hr
    rcases getElem?_snoc hr with hr | ⟨_, rfl⟩
    · obtain ⟨k', p', h1, h2, h3, h4⟩ := h.free i r hr
      refine ⟨k', p', h1, h2, ?_, h4⟩
      rw [List.getElem?_set_ne, h3]
      rintro rfl
      rw [hp] at h3
      injection h3 with h3
      subst h3
      rw [hpt] at h4
      cases h4
    · exact ⟨k, zPl, rfl, hk, by simp [hkl], rfl⟩
  · have key : ∀ i : Nat, fr[i]? = some (k : Int) → False := fun i hi => by
      obtain ⟨k', p', h1, h2, h3, h4⟩ := h.free i _ hi
      have : k = k' := by omega
      subst this
      rw [hp] at h3
      injection h3 with h3
      subst h3
      rw [hpt] at h4
      cases h4
    intro i j r hi hj
    rcases getElem?_snoc hi with hi | ⟨hi, rfl⟩
    · rcases getElem?_snoc hj with hj | ⟨hj, rfl⟩
      · exact h.finj i j r hi hj
      · exact (key i hi).elim
    · rcases getElem?_snoc hj with hj | ⟨hj, _⟩
      · exact (key j hj).elim
      · omega
  · intro p' hp'
    rcases List.mem_or_eq_of_mem_set hp' with hp' | rfl
    · exact h.cnt p' hp'
    · exact ⟨by simp [zPl], by simp [zPl]⟩
  · have := h.us
    simp
    omega
  · simp; omega
theorem ALnk.upd {n k : Nat} {p : Pl} (h : ALnk pl us ls fr es) (hk : 2 ≤ k) (hp : ls[k]? = some p) (hpt : p.t = true) (hn : es[n]? = some ⟨k, p.n, p.c⟩) (x : Nd) {c : Int} (c0 : 0 ≤ c) (c1 : c ≤ 255) :
    ALnk pl us (ls.set k ⟨x, p.t, c⟩) fr (es.set n ⟨k, x, c⟩) := by
  have hnl := lt_of_get hn
  have hkl := lt_of_get hp
  refine ⟨?_, ?_, ?_, ?_, ?_, ?_, h.finj, ?_, by simpa using h.us, by simpa using h.len, h.pl0, h.pl1, by simpa using h.room⟩
  · rw [List.getElem?_set_ne (by omega)]; exact h.h0
  · rw [List.getElem?_set_ne (by omega)]; exact h.h1
  · intro r p' hr hp' ht
    rw [List.getElem?_set] at hp'
    split at hp'
    · rename_i hkr
      subst hkr
      injection hp' with hp'
      subst hp'
      exact ⟨n, by simp [hnl]⟩
    · rename_i hkr
      obtain ⟨m, hm⟩ := h.tak r p' hr hp' ht
      refine ⟨m, ?_⟩
      rw [List.getElem?_set_ne]
      · exact hm
      · rintro rfl
        rw [hn] at hm
        injection hm with hm
        injection hm with hm
        omega
  · intro m e he
    rw [List.getElem?_set] at he
    split at he
    · injection he with he
      subst he
      exact ⟨k, ⟨x, p.t, c⟩, hk, rfl, by rw [List.getElem?_set_self hkl], hpt, rfl, rfl⟩
    · rename_i hmn
      obtain ⟨r', p', h1, h2, h3, h4⟩ := h.ent m e he
      refine ⟨r', p', h1, h2, ?_, h4⟩
      rw [List.getElem?_set_ne, h3]
      rintro rfl
      exact hmn (h.inj m n e _ he hn h2).symm
  · have key : ∀ (m : Nat) (e : Pe), (es.set n ⟨k, x, c⟩)[m]? = some e → ∃ e', es[m]? = some e' ∧ e'.r = e.r := by
      intro m e he
      rw [List.getElem?_set] at he
      split at he
      · rename_i hnm
        subst hnm
        injection he with he
        subst he
        exact ⟨_, hn, rfl⟩
      · exact ⟨e, he, rfl⟩
    intro a b e f he hf heq
    obtain ⟨e', he', h1⟩ := key a e he
    obtain ⟨f', hf', h2⟩ := key b f hf
    exact h.inj a b e' f' he' hf' (by rw [h1, h2, heq])
  · intro i r hr
    obtain ⟨k', p', h1, h2, h3, h4⟩ := h.free i r hr
    refine ⟨k', p', h1, h2, ?_, h4⟩
    rw [List.getElem?_set_ne, h3]
    rintro rfl
    rw [hp] at h3
    injection h3 with h3
    subst h3
    rw [hpt] at h4
    cases h4
  · intro p' hp'
    rcases List.mem_or_eq_of_mem_set hp' with hp' | rfl
    · exact h.cnt p' hp'
    · exact ⟨c0, c1⟩
/-- the counts of the constants -/
theorem upSelf {k : Nat} (hp : ls[k]? = some (cpl k)) : ls.set k ⟨(cpl k).n, (cpl k).t, upC (cpl k).c⟩ = ls := set_self hp
theorem dnSelf {k : Nat} (hp : ls[k]? = some (cpl k)) : ls.set k ⟨(cpl k).n, (cpl k).t, dnC (cpl k).c⟩ = ls := set_self hp
theorem upC_range {c : Int} (h0 : 0 ≤ c) (h1 : c ≤ 255) : 0 ≤ upC c ∧ upC c ≤ 255 := by unfold upC; split <;> omega
theorem dnC_range {c : Int} (h0 : 0 ≤ c) (h1 : c ≤ 255) : 0 ≤ dnC c ∧ dnC c ≤ 255 := by unfold dnC; split; omega; split <;> omega
end
end Go.Proofs.Ytkajgopkdolhcaa
