/- The cache beside the reference's: plain laws, no program in sight. -/
import Derived.Test.YtbajlmaceapfpaaCacheRPut
namespace Go.Proofs.Ytbajlmaceapfpaa
open Go.RowKit Go.Tk

theorem nodup_le : ∀ (n : Nat) (l : List Nat), l.Nodup → (∀ x ∈ l, x < n) → l.length ≤ n
  | 0, l, _, h => by
    cases l with
    | nil => simp
    | cons x l => exact absurd (h x (by simp)) (by omega)
  | n + 1, l, hn, h => by
    have h1 : (l.erase n).length ≤ n := nodup_le n _ (hn.erase n) (fun x hx => by
      have h2 := (List.Nodup.mem_erase_iff hn).1 hx
      have := h x h2.2
      omega)
    have h2 := List.length_erase (a := n) (l := l)
    split at h2 <;> omega

structure Lnk (n cl : Nat) (ls : List Ln) (es : List Ent) (last : Int) : Prop where
  len : ls.length = n
  cur : ∀ (i : Nat) (l : Ln), ls[i]? = some l → l.gen = (cl : Int) + 1 → l.k.at n = i ∧ ∃ e, e ∈ es ∧ e.k = l.k ∧ e.r = l.r
  gen : ∀ l : Ln, l ∈ ls → l.gen ≤ (cl : Int) + 1
  dis : ∀ (i j : Nat) (e e' : Ent), es[i]? = some e → es[j]? = some e' → e.k = e'.k → i = j
  lst : last = -1 ∨ ∃ (m : Nat) (e : Ent) (l : Ln), last = m ∧ es[m]? = some e ∧ ls[e.k.at n]? = some l ∧ l.k = e.k ∧ l.gen = (cl : Int) + 1

theorem findN_get {es : List Ent} {k : Ky} {i : Nat} (h : findI es k = i) : ∃ e, es[i]? = some e ∧ e.k = k := by
  unfold findI at h
  split at h
  · rename_i hl
    have : findN es k = i := by omega
    subst this
    refine ⟨es[findN es k], List.getElem?_eq_getElem hl, ?_⟩
    have := List.findIdx_getElem (p := fun e : Ent => decide (e.k = k)) (xs := es) (w := hl)
    exact of_decide_eq_true this
  · omega
theorem findI_of {n cl : Nat} {ls : List Ln} {es : List Ent} {last : Int} (h : Lnk n cl ls es last) {i : Nat} {e : Ent} (he : es[i]? = some e) : findI es e.k = i := by
  have hlt : findN es e.k < es.length := by
    unfold findN
    rw [List.findIdx_lt_length]
    exact ⟨e, List.mem_of_getElem? he, by simp⟩
  have h1 : findI es e.k = findN es e.k := by unfold findI; rw [if_pos hlt]
  obtain ⟨e', he', hk⟩ := findN_get h1
  have := h.dis _ _ _ _ he' he hk
  rw [h1, this]
theorem findI_neg {es : List Ent} {k : Ky} (h : ∀ e, e ∈ es → e.k ≠ k) : findI es k = -1 := by
  unfold findI findN
  rw [if_neg]
  rw [List.findIdx_lt_length]
  rintro ⟨e, he, h2⟩
  exact h e he (by simpa using h2)
theorem findI_cases (es : List Ent) (k : Ky) : (findI es k = -1 ∧ ∀ e, e ∈ es → e.k ≠ k) ∨ ∃ (i : Nat) (e : Ent), findI es k = i ∧ es[i]? = some e ∧ e.k = k := by
  by_cases h : ∃ e, e ∈ es ∧ e.k = k
  · obtain ⟨e, he, hk⟩ := h
    right
    have hlt : findN es k < es.length := by
      unfold findN
      rw [List.findIdx_lt_length]
      exact ⟨e, he, by simp [hk]⟩
    have h1 : findI es k = findN es k := by unfold findI; rw [if_pos hlt]
    obtain ⟨e', he', hk'⟩ := findN_get h1
    exact ⟨_, _, h1, he', hk'⟩
  · left
    have h2 : ∀ e, e ∈ es → e.k ≠ k := fun e he hk => h ⟨e, he, hk⟩
    exact ⟨findI_neg h2, h2⟩

/-- what the reference says of an answer -/
def mayB (es : List Ent) (last : Int) (k : Ky) (r : Int) (ok : Bool) : Bool :=
  if ok then (match es[(findI es k).toNat]? with | some e => decide (0 ≤ findI es k) && decide (e.r = r) | none => false)
  else decide (r = 0) && (decide (findI es k < 0) || decide (findI es k ≠ last))

theorem may_ok {n cl : Nat} {ls : List Ln} {es : List Ent} {last : Int} (h : Lnk n cl ls es last) (k : Ky) (l : Ln) (hl : ls[k.at n]? = some l) : mayB es last k (ansR l k cl) (hit l k cl) = true := by
  unfold mayB ansR
  cases hh : hit l k cl with
  | true =>
    unfold hit at hh
    simp only [Bool.and_eq_true, decide_eq_true_eq] at hh
    obtain ⟨_, e, he, hk, hr⟩ := h.cur _ _ hl hh.2
    obtain ⟨i, hi⟩ := List.getElem?_of_mem he
    have hf := findI_of h hi
    rw [hk, hh.1] at hf
    simp [hf, hi, hr]
  | false =>
    simp only [Bool.false_eq_true, if_false, decide_true, Bool.true_and, Bool.or_eq_true, decide_eq_true_eq]
    rcases findI_cases es k with ⟨h1, _⟩ | ⟨i, e, h1, he, hk⟩
    · left; omega
    · right
      intro hlast
      rcases h.lst with h2 | ⟨m, e', l', h2, he', hl', hk', hg'⟩
      · omega
      · have hmi : m = i := by omega
        subst hmi
        rw [he] at he'
        injection he' with he'
        subst he'
        rw [hk] at hl' hk'
        rw [hl] at hl'
        injection hl' with hl'
        subst hl'
        simp [hit, hk', hg'] at hh

theorem Lnk.start (n : Nat) : Lnk n 0 (List.replicate n zeroLn) [] (-1) :=
  ⟨by simp, fun i l hl hg => by
    have := List.eq_of_mem_replicate (List.mem_of_getElem? hl)
    subst this
    simp [zeroLn] at hg, fun l hl => by
    have := List.eq_of_mem_replicate hl
    subst this
    simp [zeroLn], fun _ _ _ _ h => by simp at h, .inl rfl⟩
theorem Lnk.clear {n cl : Nat} {ls : List Ln} {es : List Ent} {last : Int} (h : Lnk n cl ls es last) : Lnk n (cl + 1) ls [] (-1) :=
  ⟨h.len, fun i l hl hg => by
    have := h.gen l (List.mem_of_getElem? hl)
    omega, fun l hl => by
    have := h.gen l hl
    omega, fun _ _ _ _ h => by simp at h, .inl rfl⟩
theorem Lnk.put_new {n cl : Nat} {ls : List Ln} {es : List Ent} {last : Int} (h : Lnk n cl ls es last) (k : Ky) (r : Int) (hk : ∀ e, e ∈ es → e.k ≠ k) (hn : k.at n < n) :
    Lnk n cl (ls.set (k.at n) ⟨k, r, (cl : Int) + 1⟩) (es ++ [⟨k, r⟩]) es.length := by
  have hlen := h.len
  refine ⟨by simpa using hlen, fun i l hl hg => ?_, fun l hl => ?_, fun i j e e' hi hj he => ?_, .inr ⟨es.length, ⟨k, r⟩, ⟨k, r, cl + 1⟩, rfl, by simp, by simp [hlen, hn], rfl, rfl⟩⟩
  · rw [List.getElem?_set] at hl
    by_cases hki : k.at n = i
    · rw [if_pos hki, if_pos (by omega)] at hl
      injection hl with hl
      subst hl
      exact ⟨hki, ⟨k, r⟩, by simp, rfl, rfl⟩
    · rw [if_neg hki] at hl
      obtain ⟨h1, e, he, h2, h3⟩ := h.cur i l hl hg
      exact ⟨h1, e, by simp [he], h2, h3⟩
  · rcases List.mem_or_eq_of_mem_set hl with h1 | h1
    · exact h.gen l h1
    · subst h1; simp
  · rw [List.getElem?_append] at hi hj
    split at hi <;> split at hj
    · exact h.dis i j e e' hi hj he
    · rename_i h1 h2
      obtain ⟨h3, h4⟩ := List.getElem?_eq_some_iff.1 hj
      simp at h4
      subst h4
      exact absurd he (hk e (List.mem_of_getElem? hi))
    · obtain ⟨h3, h4⟩ := List.getElem?_eq_some_iff.1 hi
      simp at h4
      subst h4
      exact absurd he.symm (hk e' (List.mem_of_getElem? hj))
    · rename_i h1 h2
      have a1 := lt_of_get hi
      have a2 := lt_of_get hj
      simp at a1 a2
      omega
theorem Lnk.put_old {n cl : Nat} {ls : List Ln} {es : List Ent} {last : Int} (h : Lnk n cl ls es last) (k : Ky) (r : Int) (m : Nat) (e0 : Ent) (hm : es[m]? = some e0) (hk : e0.k = k) (hn : k.at n < n) :
    Lnk n cl (ls.set (k.at n) ⟨k, r, (cl : Int) + 1⟩) (es.set m ⟨e0.k, r⟩) m := by
  have hlen := h.len
  have hml := lt_of_get hm
  have hget : ∀ (i : Nat) (e : Ent), (es.set m ⟨e0.k, r⟩)[i]? = some e → ∃ e', es[i]? = some e' ∧ e'.k = e.k := by
    intro i e hi
    rw [List.getElem?_set] at hi
    split at hi
    · rename_i him
      subst him
      injection hi with hi
      subst hi
      exact ⟨e0, hm, rfl⟩
    · exact ⟨e, hi, rfl⟩
  refine ⟨by simpa using hlen, fun i l hl hg => ?_, fun l hl => ?_, fun i j e e' hi hj he => ?_, .inr ⟨m, ⟨e0.k, r⟩, ⟨k, r, cl + 1⟩, rfl, by simp [hml], by simp [hlen, hn, hk], hk.symm, rfl⟩⟩
  · rw [List.getElem?_set] at hl
    by_cases hki : k.at n = i
    · rw [if_pos hki, if_pos (by omega)] at hl
      injection hl with hl
      subst hl
      exact ⟨hki, ⟨e0.k, r⟩, List.mem_of_getElem? (i := m) (by simp [hml]), hk, rfl⟩
    · rw [if_neg hki] at hl
      obtain ⟨h1, e, he, h2, h3⟩ := h.cur i l hl hg
      obtain ⟨j, hj⟩ := List.getElem?_of_mem he
      refine ⟨h1, e, List.mem_of_getElem? (i := j) ?_, h2, h3⟩
      rw [List.getElem?_set, if_neg, hj]
      rintro rfl
      rw [hm] at hj
      injection hj with hj
      subst hj
      apply hki
      rw [← hk, h2, h1]
  · rcases List.mem_or_eq_of_mem_set hl with h1 | h1
    · exact h.gen l h1
    · subst h1; simp
  · obtain ⟨a, ha, hak⟩ := hget _ _ hi
    obtain ⟨b, hb, hbk⟩ := hget _ _ hj
    exact h.dis i j a b ha hb (by rw [hak, hbk, he])

/-- how many of all questions are remembered -/
def remC (n cl : Nat) (ls : List Ln) (es : List Ent) : Nat := es.countP (fun e => match ls[e.k.at n]? with | some l => hit l e.k cl | none => false)
theorem rem_le {n cl : Nat} {ls : List Ln} {es : List Ent} {last : Int} (h : Lnk n cl ls es last) (hn : 0 < n) : remC n cl ls es ≤ n := by
  unfold remC
  rw [List.countP_eq_length_filter]
  have h1 := nodup_le n ((es.filter (fun e => match ls[e.k.at n]? with | some l => hit l e.k cl | none => false)).map (fun e => e.k.at n)) ?_ ?_
  · simpa using h1
  · have hnd : es.Pairwise (fun a b => a.k ≠ b.k) := by
      rw [List.pairwise_iff_getElem]
      intro i j hi hj hij hk
      have := h.dis i j _ _ (List.getElem?_eq_getElem hi) (List.getElem?_eq_getElem hj) hk
      omega
    unfold List.Nodup
    rw [List.pairwise_map]
    refine (List.Pairwise.filter _ hnd).imp_of_mem ?_
    intro a b ha hb hab heq
    simp only [List.mem_filter] at ha hb
    have h2 := ha.2
    have h3 := hb.2
    rw [heq] at h2
    cases hl : ls[b.k.at n]? with
    | none => rw [hl] at h2; cases h2
    | some l =>
      rw [hl] at h2 h3
      simp only [hit, Bool.and_eq_true, decide_eq_true_eq] at h2 h3
      exact hab (h2.1.symm.trans h3.1)
  · intro x hx
    obtain ⟨e, _, rfl⟩ := List.mem_map.1 hx
    exact idx_lt hn _ _ _ _
end Go.Proofs.Ytbajlmaceapfpaa
