/- Tools of the walks of this seat, over any program: blocks known whole, what a call leaves as it was. No condition. -/
import Derived.Test.YtlggmoghgoeiiaaTk
namespace Go.Tk
open Go.RowKit Go.ChangeShapes Go.WideShapes Go.Deep

/-! ### A block that is known whole -/
def Blk (w : World) (g : Nat) (t : TypeId) (cs : Array Value) : Prop := w.heap[g]? = some (.cells cs t (0, 0))

/-- Old blocks outside S are as they were. -/
structure Frm (S : Nat → Prop) (w w' : World) : Prop where
  os : w'.os = w.os
  tape : w'.tape = w.tape
  output : w'.output = w.output
  size : w.heap.size ≤ w'.heap.size
  block : ∀ i, i < w.heap.size → ¬ S i → w'.heap[i]? = w.heap[i]?

section
variable {w w' w'' : World} {S S' : Nat → Prop} {g : Nat} {t : TypeId} {cs : Array Value}

theorem heap_drewN (w : World) (n : Nat) : (w.drewN n).heap = w.heap := rfl
theorem heap_drew (w : World) : w.drew.heap = w.heap := rfl
theorem size_setCell (w : World) (a : Addr) (v : Value) : (w.setCell a v).heap.size = w.heap.size := by simp [World.setCell]

theorem Blk.lt (h : Blk w g t cs) : g < w.heap.size := by
  rcases Nat.lt_or_ge g w.heap.size with hlt | hge
  · exact hlt
  · unfold Blk at h; rw [Array.getElem?_eq_none hge] at h; cases h
theorem Blk.cell (h : Blk w g t cs) (i : Nat) : w.cell? ⟨g, i, none⟩ = cs[i]? := by
  unfold Blk at h
  simp [World.cell?, h]
theorem Blk.free (h : Blk w g t cs) (i : Nat) : w.frozen? ⟨g, i, none⟩ = false := by
  unfold Blk at h
  simp [World.frozen?, h]
theorem Blk.new (w : World) (t : TypeId) (cs : Array Value) : Blk (w.alloc (.cells cs t)) w.heap.size t cs := heap_alloc_new w _
theorem Blk.drew (h : Blk w g t cs) : Blk w.drew g t cs := h
theorem Blk.drewN (h : Blk w g t cs) (n : Nat) : Blk (w.drewN n) g t cs := h
theorem Blk.alloc (h : Blk w g t cs) (o : Obj) : Blk (w.alloc o) g t cs := (Below.heap_alloc w o g h.lt).trans h
theorem Blk.set (h : Blk w g t cs) (i : Nat) (u : Value) : Blk (w.setCell ⟨g, i, none⟩ u) g t (cs.setIfInBounds i u) := by
  unfold Blk at h ⊢
  simp [World.setCell, Array.getElem?_modify, h]
theorem Blk.far (h : Blk w g t cs) {p : Addr} (hp : g ≠ p.block) (u : Value) : Blk (w.setCell p u) g t cs := (Below.heap_setCell w p u g hp).trans h
theorem Blk.frm (h : Blk w g t cs) (hf : Frm S w w') (hs : ¬ S g) : Blk w' g t cs := (hf.block g h.lt hs).trans h
theorem Blk.below {B : Nat} (h : Blk w g t cs) (hb : Below B w w') (hg : g < B) : Blk w' g t cs := (hb.block g hg).trans h
theorem Blk.grown {row : Option Nat} (h : Blk w g t cs) (hb : w.grownBy w' row) (hg : some g ≠ row) : Blk w' g t cs := (hb.block g h.lt hg).trans h
theorem Blk.inj {cs' : Array Value} {t' : TypeId} (h : Blk w g t cs) (h' : Blk w g t' cs') : t = t' ∧ cs = cs' := by
  unfold Blk at h h'
  rw [h] at h'
  simp only [Option.some.injEq, Obj.cells.injEq] at h'
  exact ⟨h'.2.1, h'.1⟩
theorem Blk.ne {g' : Nat} {t' : TypeId} {cs' : Array Value} (h : Blk w g t cs) (h' : Blk w g' t' cs') (hne : t ≠ t') : g ≠ g' := by
  rintro rfl
  exact hne (h.inj h').1

theorem Frm.refl (S : Nat → Prop) (w : World) : Frm S w w := ⟨rfl, rfl, rfl, Nat.le_refl _, fun _ _ _ => rfl⟩
theorem Frm.trans (h : Frm S w w') (k : Frm S' w' w'') (hs : ∀ i, i < w.heap.size → S' i → S i) : Frm S w w'' :=
  ⟨k.os.trans h.os, k.tape.trans h.tape, k.output.trans h.output, Nat.le_trans h.size k.size, fun i hi hn =>
    (k.block i (Nat.lt_of_lt_of_le hi h.size) (fun hc => hn (hs i hi hc))).trans (h.block i hi hn)⟩
theorem Frm.mono (h : Frm S w w') (hs : ∀ i, i < w.heap.size → S i → S' i) : Frm S' w w' := ⟨h.os, h.tape, h.output, h.size, fun i hi hn => h.block i hi (fun hc => hn (hs i hi hc))⟩
theorem Frm.drew (h : Frm S w w') : Frm S w w'.drew := ⟨h.os, h.tape, h.output, h.size, h.block⟩
theorem Frm.drewN (h : Frm S w w') (n : Nat) : Frm S w (w'.drewN n) := ⟨h.os, h.tape, h.output, h.size, h.block⟩
theorem Frm.alloc (h : Frm S w w') (o : Obj) : Frm S w (w'.alloc o) :=
  ⟨h.os, h.tape, h.output, Nat.le_trans h.size (by simp), fun i hi hn => (Below.heap_alloc w' o i (Nat.lt_of_lt_of_le hi h.size)).trans (h.block i hi hn)⟩
theorem Frm.setCell (h : Frm S w w') {p : Addr} (hp : S p.block ∨ w.heap.size ≤ p.block) (u : Value) : Frm S w (w'.setCell p u) :=
  ⟨h.os, h.tape, h.output, by rw [size_setCell]; exact h.size, fun i hi hn => (Below.heap_setCell w' p u i (by
    rintro rfl
    rcases hp with hp | hp
    · exact hn hp
    · omega)).trans (h.block i hi hn)⟩
theorem Frm.set {S : Nat → Prop} {w w' : World} (h : Frm S w w') {g : Nat} (i : Nat) (u : Value) (hg : S g) : Frm S w (w'.setCell ⟨g, i, none⟩ u) := h.setCell (p := ⟨g, i, none⟩) (.inl hg) u
theorem Frm.setNew {S : Nat → Prop} {w w' : World} (h : Frm S w w') {g : Nat} (i : Nat) (u : Value) (hg : w.heap.size ≤ g) : Frm S w (w'.setCell ⟨g, i, none⟩ u) := h.setCell (p := ⟨g, i, none⟩) (.inr hg) u
theorem Frm.grown {row : Option Nat} (h : Frm S w w') (k : w'.grownBy w'' row) (hr : ∀ g, row = some g → S g ∨ w.heap.size ≤ g) : Frm S w w'' :=
  ⟨k.os.trans h.os, k.tape.trans h.tape, k.output.trans h.output, Nat.le_trans h.size k.size, fun i hi hn =>
    (k.block i (Nat.lt_of_lt_of_le hi h.size) (fun hc => by rcases hr i hc.symm with h | h; exact hn h; omega)).trans (h.block i hi hn)⟩
theorem Frm.of_below (h : Below w.heap.size w w') (S : Nat → Prop) : Frm S w w' := ⟨h.os, h.tape, h.output, h.size, fun i hi _ => h.block i hi⟩
theorem Frm.to_below {B : Nat} (h : Frm S w w') (hB : B ≤ w.heap.size) (hs : ∀ i, i < B → ¬ S i) : Below B w w' :=
  ⟨h.os, h.tape, h.output, h.size, fun i hi => h.block i (by omega) (hs i hi)⟩
theorem Frm.below {B : Nat} {w0 : World} (h0 : Below B w0 w) (h : Frm S w w') (hB : B ≤ w.heap.size) (hs : ∀ i, i < B → ¬ S i) : Below B w0 w' := h0.trans (h.to_below hB hs)
theorem Frm.cell (h : Frm S w w') {p : Addr} (hp : p.block < w.heap.size) (hs : ¬ S p.block) : w'.cell? p = w.cell? p := World.cell?_of_block (h.block _ hp hs)
end

/-- nothing old has turned -/
abbrev Same (w w' : World) : Prop := Frm (fun _ => False) w w'

theorem list_choose {α : Type} (n : Nat) (Q : Nat → α → Prop) (h : ∀ i, i < n → ∃ x, Q i x) : ∃ xs : List α, xs.length = n ∧ ∀ i x, xs[i]? = some x → Q i x := by
  induction n with
  | zero => exact ⟨[], rfl, fun i x hx => by simp at hx⟩
  | succ n ih =>
    obtain ⟨xs, hl, hx⟩ := ih (fun i hi => h i (by omega))
    obtain ⟨y, hy⟩ := h n (by omega)
    refine ⟨xs ++ [y], by simp [hl], fun i x hi => ?_⟩
    rw [List.getElem?_append] at hi
    split at hi
    · exact hx i x hi
    · rename_i hge
      have : i < (xs ++ [y]).length := by
        rcases Nat.lt_or_ge i (xs ++ [y]).length with h | h
        · exact h
        · simp at h; rw [List.getElem?_eq_none (by simp; omega)] at hi; cases hi
      simp at this
      have hin : i = n := by omega
      subst hin
      simp [hl] at hi
      subst hi
      exact hy

/-! ### Rows of structs: a list of records, m cells each -/
theorem flat_length {α β : Type} (f : α → List β) (m : Nat) (hf : ∀ x, (f x).length = m) : ∀ (l : List α), (l.flatMap f).length = l.length * m
  | [] => by simp
  | x :: l => by simp [flat_length f m hf l, hf, Nat.add_mul, Nat.add_comm]
theorem flat_get {α β : Type} (f : α → List β) (m : Nat) (hf : ∀ x, (f x).length = m) : ∀ (l : List α) (i j : Nat), j < m → (l.flatMap f)[i * m + j]? = (l[i]?).bind fun x => (f x)[j]?
  | [], i, j, _ => by simp
  | x :: l, 0, j, hj => by simp [List.getElem?_append, hf, hj]
  | x :: l, i + 1, j, hj => by
    rw [List.flatMap_cons, List.getElem?_append_right (by rw [hf, Nat.add_mul]; omega), hf]
    rw [show (i + 1) * m + j - m = i * m + j from by rw [Nat.add_mul]; omega]
    simpa using flat_get f m hf l i j hj
/-- cells written one behind the other -/
def setRow (cs : Array Value) (o : Nat) : List Value → Array Value
  | [] => cs
  | v :: vs => setRow (cs.setIfInBounds o v) (o + 1) vs
theorem setRow_size (vs : List Value) : ∀ (cs : Array Value) (o : Nat), (setRow cs o vs).size = cs.size := by
  induction vs with
  | nil => intro cs o; rfl
  | cons v vs ih => intro cs o; simp [setRow, ih]
theorem setRow_get (vs : List Value) : ∀ (cs : Array Value) (o k : Nat), o + vs.length ≤ cs.size → (setRow cs o vs)[k]? = if o ≤ k ∧ k < o + vs.length then vs[k - o]? else cs[k]? := by
  induction vs with
  | nil => intro cs o k _; simp [setRow]; omega
  | cons v vs ih =>
    intro cs o k h
    simp only [List.length_cons] at h
    rw [setRow, ih _ _ _ (by simp; omega)]
    by_cases h1 : o + 1 ≤ k ∧ k < o + 1 + vs.length
    · rw [if_pos h1, if_pos (by simp; omega), show k - o = (k - (o + 1)) + 1 by omega]
      simp
    · rw [if_neg h1]
      by_cases h2 : k = o
      · subst h2
        rw [if_pos (by simp)]
        simp [show k < cs.size by omega]
      · rw [if_neg (by simp; omega), Array.getElem?_setIfInBounds_ne (Ne.symm h2)]
theorem flat_set {α β : Type} (f : α → List β) (m : Nat) (hf : ∀ x, (f x).length = m) (l : List α) (i : Nat) (x : α) (hi : i < l.length) (hm : 0 < m) (ys : List β)
    (h : ∀ k, ys[k]? = if k / m = i then (f x)[k % m]? else (l.flatMap f)[k]?) : ys = (l.set i x).flatMap f := by
  apply List.ext_getElem?
  intro k
  rw [h k]
  have hk : k = k / m * m + k % m := by rw [Nat.mul_comm]; exact (Nat.div_add_mod k m).symm
  have hmod : k % m < m := Nat.mod_lt _ hm
  have e1 := flat_get f m hf (l.set i x) (k / m) (k % m) hmod
  have e2 := flat_get f m hf l (k / m) (k % m) hmod
  rw [← hk] at e1 e2
  rw [e1, e2, List.getElem?_set]
  by_cases hki : k / m = i
  · subst hki
    simp [hi]
  · rw [if_neg hki, if_neg (fun h => hki h.symm)]
theorem flat_store {α : Type} (f : α → List Value) (m : Nat) (hf : ∀ x, (f x).length = m) (hm : 0 < m) (l : List α) (i : Nat) (x : α) (hi : i < l.length) :
    setRow (l.flatMap f).toArray (i * m) (f x) = ((l.set i x).flatMap f).toArray := by
  have hb : i * m + m ≤ l.length * m := by
    have := Nat.mul_le_mul_right m (show i + 1 ≤ l.length by omega)
    rw [Nat.add_mul] at this
    omega
  apply Array.toList_inj.1
  rw [List.toList_toArray]
  refine flat_set f m hf l i x hi hm _ (fun k => ?_)
  rw [Array.getElem?_toList, setRow_get _ _ _ _ (by simp only [List.size_toArray]; rw [flat_length f m hf, hf]; exact hb), hf]
  have hk : k = m * (k / m) + k % m := (Nat.div_add_mod k m).symm
  have hmod : k % m < m := Nat.mod_lt _ hm
  by_cases h : k / m = i
  · rw [if_pos h, if_pos (by subst h; rw [Nat.mul_comm (k / m) m]; omega)]
    subst h
    rw [Nat.mul_comm (k / m) m]
    congr 1
    omega
  · rw [if_neg h, if_neg]
    · simp
    · intro h2
      apply h
      have : k / m = i := by
        rw [Nat.div_eq_iff hm]
        constructor
        · omega
        · omega
      exact this

/-! ### A row of the call's own, of records -/
structure Own (w : World) (e : TypeId) (m : Nat) {α : Type} (f : α → List Value) (A : Option Addr) (N C : Nat) (xs : List α) : Prop where
  len : N = xs.length
  own : w.ownsRow 0 e m (.slice A N C) N (xs.flatMap f)
section
variable {w w' : World} {e : TypeId} {m : Nat} {α : Type} {f : α → List Value} {A : Option Addr} {N C : Nat} {xs : List α}
theorem Own.nil (w : World) (e : TypeId) (m : Nat) (f : α → List Value) : Own w e m f none 0 0 [] := ⟨rfl, by simpa using World.ownsRow_nil w 0 e m⟩
theorem lt_of_get {β : Type} {l : List β} {i : Nat} {x : β} (h : l[i]? = some x) : i < l.length := by
  rcases Nat.lt_or_ge i l.length with h' | h'
  · exact h'
  · rw [List.getElem?_eq_none h'] at h; cases h
theorem Own.form (h : Own w e m f A N C xs) (hN : 0 < N) : ∃ sb, A = some ⟨sb, 0, none⟩ ∧ sb < w.heap.size := by
  rcases h.own.2 with ⟨_, h'⟩ | ⟨g, cap, cur, h1, _, h2, _⟩
  · omega
  · injection h1 with hA _ _
    exact ⟨g, hA, (Array.getElem?_eq_some_iff.1 h2).1⟩
theorem Own.get (hf : ∀ x, (f x).length = m) (h : Own w e m f A N C xs) {i : Nat} {x : α} (hi : xs[i]? = some x) : ∃ sb, A = some ⟨sb, 0, none⟩ ∧ sb < w.heap.size ∧ ∀ j, j < m → w.cell? ⟨sb, i * m + j, none⟩ = (f x)[j]? := by
  have hl := lt_of_get hi
  have hlen := h.len
  obtain ⟨sb, rfl, hs⟩ := h.form (by omega)
  refine ⟨sb, rfl, hs, fun j hj => ?_⟩
  have hb : i * m + m ≤ N * m := by
    have := Nat.mul_le_mul_right m (show i + 1 ≤ N by omega)
    rw [Nat.add_mul] at this
    omega
  rw [h.own.cellAt _ (by omega), flat_get _ m hf _ _ _ hj, hi]
  rfl
theorem Own.block (h : Own w e m f A N C xs) : ∀ a, A = some a → a.block < w.heap.size := by
  intro a ha
  subst ha
  exact (h.own.lt a.block rfl).2
theorem Own.frm {S : Nat → Prop} (h : Own w e m f A N C xs) (hs : Frm S w w') (hn : ∀ a, A = some a → ¬ S a.block) : Own w' e m f A N C xs := by
  refine ⟨h.len, h.own.1, ?_⟩
  rcases h.own.2 with hx | ⟨g, cap, cur, h1, h0, h2, h3⟩
  · exact .inl hx
  · refine .inr ⟨g, cap, cur, h1, h0, ?_, h3⟩
    have hg : g < w.heap.size := (Array.getElem?_eq_some_iff.1 h2).1
    injection h1 with hA _ _
    rw [hs.block g hg (hn _ hA)]
    exact h2
theorem Own.ne_blk {g : Nat} {t : TypeId} {cs : Array Value} (h : Own w e m f A N C xs) (hb : Blk w g t cs) (hne : e ≠ t) : ∀ a, A = some a → a.block ≠ g := by
  intro a ha hag
  subst ha
  rcases h.own.2 with ⟨hx, _⟩ | ⟨g', cap, cur, h1, _, h2, _⟩
  · cases hx
  · injection h1 with hA _ _
    injection hA with hA
    subst hA
    simp only at hag
    subst hag
    exact hne (Blk.inj (show Blk w g' e cur from h2) hb).1
end

theorem flat_set_one {α β : Type} (f : α → List β) (m : Nat) (hf : ∀ x, (f x).length = m) (l : List α) (i j : Nat) (x x' : α) (u : β) (hx : l[i]? = some x) (hj : j < m) (hx' : f x' = (f x).set j u) :
    (l.flatMap f).set (i * m + j) u = (l.set i x').flatMap f := by
  have hi := lt_of_get hx
  refine flat_set f m hf l i x' hi (by omega) _ (fun k => ?_)
  have hmod : k % m < m := Nat.mod_lt _ (by omega)
  have hk : k = k / m * m + k % m := by rw [Nat.mul_comm]; exact (Nat.div_add_mod k m).symm
  have e2 := flat_get f m hf l (k / m) (k % m) hmod
  rw [← hk] at e2
  have hb : i * m + m ≤ l.length * m := by
    have := Nat.mul_le_mul_right m (show i + 1 ≤ l.length by omega)
    rw [Nat.add_mul] at this
    omega
  rw [List.getElem?_set, flat_length f m hf]
  by_cases h1 : i * m + j = k
  · have hd : k / m = i := by rw [Nat.div_eq_iff (by omega)]; omega
    have hr : k % m = j := by
      have := hk
      rw [hd] at this
      omega
    rw [if_pos h1, if_pos (by omega), if_pos hd, hr, hx', List.getElem?_set, if_pos rfl, hf, if_pos hj]
  · rw [if_neg h1]
    by_cases hd : k / m = i
    · rw [if_pos hd, e2, hd, hx, hx', List.getElem?_set, if_neg (by intro h; apply h1; rw [hd] at hk; omega)]
      rfl
    · rw [if_neg hd]
section
variable {w w' : World} {e : TypeId} {m : Nat} {α : Type} {f : α → List Value} {A : Option Addr} {N C : Nat} {xs : List α}
theorem Own.free {sb : Nat} (h : Own w e m f (some ⟨sb, 0, none⟩) N C xs) (j : Nat) : w.frozen? ⟨sb, j, none⟩ = false := h.own.frozenAt j
theorem Own.far {p : Addr} (h : Own w e m f A N C xs) (hp : ∀ a, A = some a → a.block ≠ p.block) (u : Value) : Own (w.setCell p u) e m f A N C xs :=
  h.frm (S := fun b => b = p.block) ((Frm.refl (fun b => b = p.block) w).setCell (.inl rfl) u) (fun a ha hb => hp a ha hb)
theorem Own.store {sb : Nat} (hf : ∀ x, (f x).length = m) (h : Own w e m f (some ⟨sb, 0, none⟩) N C xs) (i j : Nat) (x x' : α) (u : Value) (hx : xs[i]? = some x) (hj : j < m) (hx' : f x' = (f x).set j u) :
    Own (w.setCell ⟨sb, i * m + j, none⟩ u) e m f (some ⟨sb, 0, none⟩) N C (xs.set i x') := by
  refine ⟨by rw [List.length_set]; exact h.len, ?_⟩
  rw [← flat_set_one f m hf xs i j x x' u hx hj hx']
  exact (h.own.stored _ u).1
end

/-- the block of a slice's row -/
def rowOf (A : Option Addr) (b : Nat) : Prop := ∃ a, A = some a ∧ a.block = b
theorem ownBlock_row {A : Option Addr} {N C b : Nat} : (Value.slice A N C).ownBlock = some b ↔ rowOf A b := by
  cases A with
  | none => simp [Value.ownBlock, rowOf]
  | some a => simp [Value.ownBlock, rowOf]

/-- cells of a block written one behind the other -/
def put (w : World) (b o : Nat) : List Value → World
  | [] => w
  | v :: vs => put (w.setCell ⟨b, o, none⟩ v) b (o + 1) vs
def setL (l : List Value) (o : Nat) : List Value → List Value
  | [] => l
  | v :: vs => setL (l.set o v) (o + 1) vs
theorem setL_setRow : ∀ (vs : List Value) (l : List Value) (o : Nat), (setRow l.toArray o vs).toList = setL l o vs
  | [], _, _ => by simp [setRow, setL]
  | v :: vs, l, o => by
    rw [setRow, setL, ← setL_setRow vs (l.set o v) (o + 1)]
    simp
theorem own_put {e : TypeId} {m sb N C : Nat} : ∀ (vs : List Value) {w : World} {ys : List Value} (o : Nat), w.ownsRow 0 e m (.slice (some ⟨sb, 0, none⟩) N C) N ys → (put w sb o vs).ownsRow 0 e m (.slice (some ⟨sb, 0, none⟩) N C) N (setL ys o vs)
  | [], _, _, _, h => h
  | v :: vs, _, _, o, h => own_put vs (o + 1) (h.stored o v).1
theorem Own.put {w : World} {e : TypeId} {m : Nat} {α : Type} {f : α → List Value} {N C sb : Nat} {xs : List α} (hf : ∀ x, (f x).length = m) (hm : 0 < m) (h : Own w e m f (some ⟨sb, 0, none⟩) N C xs) {i : Nat} (hi : i < xs.length) (x : α) :
    Own (put w sb (i * m) (f x)) e m f (some ⟨sb, 0, none⟩) N C (xs.set i x) := by
  refine ⟨by rw [List.length_set]; exact h.len, ?_⟩
  have h1 := own_put (f x) (i * m) h.own
  rw [← setL_setRow, flat_store f m hf hm xs i x hi] at h1
  simpa using h1
theorem Frm.put {S : Nat → Prop} {b : Nat} (hb : S b) : ∀ (vs : List Value) {w w' : World} (o : Nat), Frm S w w' → Frm S w (put w' b o vs)
  | [], _, _, _, h => h
  | v :: vs, _, _, o, h => Frm.put hb vs (o + 1) (h.set o v hb)
theorem Blk.put {g b : Nat} {t : TypeId} {cs : Array Value} (hb : g ≠ b) : ∀ (vs : List Value) {w : World} (o : Nat), Blk w g t cs → Blk (put w b o vs) g t cs
  | [], _, _, h => h
  | v :: vs, _, o, h => Blk.put hb vs (o + 1) (h.far (p := ⟨b, o, none⟩) hb v)
theorem Own.farPut {e : TypeId} {m : Nat} {α : Type} {f : α → List Value} {A : Option Addr} {N C b : Nat} {xs : List α} (hb : ¬ rowOf A b) : ∀ (vs : List Value) {w : World} (o : Nat), Own w e m f A N C xs → Own (Go.Tk.put w b o vs) e m f A N C xs
  | [], _, _, h => h
  | v :: vs, _, o, h => Own.farPut hb vs (o + 1) (h.far (p := ⟨b, o, none⟩) (fun a ha hab => hb ⟨a, ha, hab⟩) v)

/-! make -/
theorem made_flat {α : Type} (f : α → List Value) (m : Nat) (hf : ∀ x, (f x).length = m) (hm : 0 < m) (x : α) (n : Nat) : madeCells (f x).toArray (n * m) = ((List.replicate n x).flatMap f).toArray := by
  apply Array.toList_inj.1
  rw [List.toList_toArray]
  apply List.ext_getElem?
  intro k
  have hk : k = k / m * m + k % m := by rw [Nat.mul_comm]; exact (Nat.div_add_mod k m).symm
  have hmod : k % m < m := Nat.mod_lt _ hm
  have e := flat_get f m hf (List.replicate n x) (k / m) (k % m) hmod
  rw [← hk] at e
  rw [e]
  by_cases h : k < n * m
  · have hd : k / m < n := Nat.div_lt_of_lt_mul (by rw [Nat.mul_comm]; exact h)
    simp only [madeCells, Array.getElem?_toList, Array.getElem?_map]
    rw [Array.getElem?_range, if_pos h, List.getElem?_replicate, if_pos hd]
    simp only [Option.map_some, Option.bind_some, List.size_toArray, hf]
    rw [getElem!_pos _ _ (by simp [hf, hmod])]
    simp [hf, hmod]
  · have hd : ¬ k / m < n := by
      intro hd
      apply h
      have := Nat.mul_le_mul_right m (show k / m + 1 ≤ n by omega)
      rw [Nat.add_mul] at this
      omega
    simp only [madeCells, Array.getElem?_toList, Array.getElem?_map]
    rw [Array.getElem?_range, if_neg h, List.getElem?_replicate, if_neg hd]
    rfl
theorem run_make_n {P : Program} {t e : TypeId} {z : Value} {size bytes : Nat} (ht : P.underlying t = some (.slice e)) (hi : (P.info? e).map (fun i => (i.zero, i.size, i.bytes)) = some (some z, size, bytes))
    (kl kc : IntKind) (n : Nat) (hbytes : bytes * n ≤ 281474976710656) (h63 : n ≤ 9223372036854775807) (w : World) :
    (Instr.makeSlice t (.int kl (n : Int)) (.int kc (n : Int))).run P w = .ok (.slice (some ⟨w.heap.size, 0, none⟩) n n) (w.alloc (.cells (madeCells z.cells (n * size)) e)) := by
  obtain ⟨i, hi, hz, hs, hb⟩ := info_parts hi
  have hb' : (i.bytes : Int) * (n : Int) ≤ 281474976710656 := by
    have h : ((i.bytes * n : Nat) : Int) ≤ 281474976710656 := by rw [hb]; omega
    rwa [Int.natCast_mul] at h
  have hr := run_make (P := P) w t e i z ht hi hz kl kc n n (by omega) (by omega) hb' (by omega)
  simp only [Int.toNat_natCast, hs] at hr
  exact hr
end Go.Tk
