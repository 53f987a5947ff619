/- Contracts and plain laws, put together in one file. No condition. -/
import Derived.Test.YtkelbbalffijbaaJ2
import Derived.Test.YtkelbbalffijbaaProg
import Derived.Maps.RangeWalk
import Derived.Maps.OwnSet
import Derived.DeepKeys4
import Derived.KernelRfl
import Derived.Carry
import Derived.Sort.MapsRangeIn
import Derived.Sort.KeysCollected
import Derived.RangeFuncMany
import Derived.WalkKit
import Derived.OwnWalkIn
import Derived.TacticsInMore
import Derived.RegionIn
import Derived.LoopNIn
import Derived.LoopIn
import Derived.Shelf.AbstractIn


/- Nodes as values. -/
namespace Go.Proofs.Ytkelbbalffijbaa
open Go.RowKit Go.Tk

/-- a node: its variable and its two children -/
structure Nd where
  v : Int
  lo : Int
  hi : Int
deriving DecidableEq, Inhabited
def Nd.cells (n : Nd) : List Value := [.int .i64 n.v, .int .u32 n.lo, .int .u32 n.hi]
def Nd.val (n : Nd) : Value := .agg #[.int .i64 n.v, .int .u32 n.lo, .int .u32 n.hi]
theorem eql_nd (x y : Nd) (w : World) : (binOp .eql 36 x.val y.val).run Try.prog w = .ok (.bool (decide (x = y))) w := by
  obtain ⟨o, a, b⟩ := x
  obtain ⟨o', a', b'⟩ := y
  unfold Nd.val
  simp only [binOp]
  by_cases h1 : o = o' <;> by_cases h2 : a = a' <;> by_cases h3 : b = b' <;> simp [Op.equal, Op.maxDepth, run_equalIn_struct, go_sem, h1, h2, h3]
theorem neq_nd (x y : Nd) (w : World) : (binOp .neq 36 x.val y.val).run Try.prog w = .ok (.bool (!decide (x = y))) w := by
  obtain ⟨o, a, b⟩ := x
  obtain ⟨o', a', b'⟩ := y
  unfold Nd.val
  simp only [binOp]
  by_cases h1 : o = o' <;> by_cases h2 : a = a' <;> by_cases h3 : b = b' <;> simp [Op.equal, Op.maxDepth, run_equalIn_struct, go_sem, h1, h2, h3]
end Go.Proofs.Ytkelbbalffijbaa


/- Nodes as keys of a map. -/
namespace Go.Proofs.Ytkelbbalffijbaa
open Go.RowKit Go.Maps

def Nd.ok (n : Nd) : Prop := (Lit.int .i64 n.v).wf = true ∧ (Lit.int .u32 n.lo).wf = true ∧ (Lit.int .u32 n.hi).wf = true
def Nd.key (n : Nd) : Lit := .string (keyBytes [.int .i64 n.v, .int .u32 n.lo, .int .u32 n.hi])
theorem Nd.isKey (n : Nd) : WideAt.IsKeyLit n.key := trivial
theorem nd_laid : laidOutB Try.prog = true := by kernel_rfl
theorem nd_wide : (match Try.prog.underlying 36 with | some (.array _ _) | some (.struct _) => true | _ => false) = true := by kernel_rfl
theorem nd_row : (36 : TypeId) < Try.prog.types.size := of_decide_eq_true (by kernel_rfl)
theorem KN : Keyed Try.prog 36 := Keyed.of_law (deep_law_laid nd_laid (m := 2) (by omega) nd_row (by kernel_rfl) nd_wide)
theorem nd_ncells : Try.prog.cellsOf 36 = 3 := by kernel_rfl
theorem nd_c1 : Try.prog.cellsOf 3 = 1 := by kernel_rfl
theorem nd_c2 : Try.prog.cellsOf 34 = 1 := by kernel_rfl
theorem nd_formed (n : Nd) : n.val.formed Try.prog 36 = true := by
  simp [Nd.val, Value.formed, Try.underlying36, nd_ncells]
theorem nd_lit1 {d : Nat} {t : TypeId} {q : IntKind} (ht : Try.prog.underlying t = some (.int q)) (v : Int) : Try.prog.keyLits (d + 1) t [.int q v] = if (Lit.int q v).wf = true then some [.int q v] else none := by
  simp [Program.keyLits, ht]
theorem nd_lit1_inv {d : Nat} {t : TypeId} {q : IntKind} (ht : Try.prog.underlying t = some (.int q)) {a : Value} {L : List Lit} (h : Try.prog.keyLits (d + 1) t [a] = some L) : ∃ v, a = .int q v ∧ (Lit.int q v).wf = true ∧ L = [.int q v] := by
  unfold Program.keyLits at h
  rw [ht] at h
  cases a <;> simp at h
  obtain ⟨⟨rfl, hw⟩, rfl⟩ := h
  exact ⟨_, rfl, hw, rfl⟩
theorem nd_lits (d : Nat) (a b c : Value) : Try.prog.keyLits (d + 2) 36 [a, b, c] = (Try.prog.keyLits (d + 1) 3 [a]).bind fun x => (Try.prog.keyLits (d + 1) 34 [b]).bind fun y => (Try.prog.keyLits (d + 1) 34 [c]).bind fun z => some (x ++ (y ++ z)) := by
  generalize hK : Try.prog.keyLits (d + 1) = K
  rw [show d + 2 = (d + 1) + 1 from rfl]
  conv => lhs; unfold Program.keyLits
  rw [hK]
  simp only [Try.underlying36]
  simp [nd_ncells, nd_c1, nd_c2]
  cases K 3 [a] <;> simp
  cases K 34 [b] <;> simp
  cases K 34 [c] <;> simp
theorem nd_depth : ∃ d, Try.prog.types.size + 1 = d + 2 := ⟨Try.prog.types.size - 1, by have h := nd_row; have : (0 : Nat) < Try.prog.types.size := Nat.lt_of_le_of_lt (Nat.zero_le _) h; omega⟩
theorem nd_key {n : Nd} (h : n.ok) : keyOf Try.prog 36 n.val = some n.key := by
  unfold keyOf
  rw [Try.underlying36]
  have hk : Try.prog.keyType 36 = true := by kernel_rfl
  simp only [hk, nd_formed, Bool.and_self, if_true]
  obtain ⟨d, hd⟩ := nd_depth
  rw [hd]
  obtain ⟨h1, h2, h3⟩ := h
  show Option.map _ (Try.prog.keyLits (d + 2) 36 [_, _, _]) = _
  rw [nd_lits, nd_lit1 Try.underlying3, nd_lit1 Try.underlying34, nd_lit1 Try.underlying34, if_pos h1, if_pos h2, if_pos h3]
  rfl
theorem nd_len {d : Nat} {cs : List Value} {L : List Lit} (h : Try.prog.keyLits (d + 2) 36 cs = some L) : cs.length = 3 := by
  generalize hK : Try.prog.keyLits (d + 1) = K at h
  rw [show d + 2 = (d + 1) + 1 from rfl] at h
  unfold Program.keyLits at h
  rw [hK] at h
  simp only [Try.underlying36, nd_ncells] at h
  split at h
  · rename_i hc; exact hc.1
  · cases h
set_option maxRecDepth 100000 in
theorem nd_key_inv {key : Value} {kl : Lit} (h : keyOf Try.prog 36 key = some kl) : ∃ n : Nd, n.ok ∧ key = n.val ∧ kl = n.key := by
  obtain ⟨xs, L, rfl, hL, rfl⟩ := keyOf_top nd_wide h
  clear h
  obtain ⟨d, hd⟩ := nd_depth
  rw [hd] at hL
  have h3 := nd_len hL
  obtain ⟨l⟩ := xs
  match l, h3, hL with
  | [a, b, c], _, hL =>
    rw [nd_lits] at hL
    obtain ⟨x, hx, hL⟩ := Option.bind_eq_some_iff.1 hL
    obtain ⟨y, hy, hL⟩ := Option.bind_eq_some_iff.1 hL
    obtain ⟨z, hz, hL⟩ := Option.bind_eq_some_iff.1 hL
    obtain ⟨v, rfl, h1, rfl⟩ := nd_lit1_inv Try.underlying3 hx
    obtain ⟨p, rfl, h2, rfl⟩ := nd_lit1_inv Try.underlying34 hy
    obtain ⟨q, rfl, h3, rfl⟩ := nd_lit1_inv Try.underlying34 hz
    cases hL
    exact ⟨⟨v, p, q⟩, ⟨h1, h2, h3⟩, rfl, rfl⟩
theorem nd_key_inj {a b : Nd} (ha : a.ok) (hb : b.ok) (h : a.key = b.key) : a = b := by
  have := KN.inj (nd_key ha) (h ▸ nd_key hb)
  simp only [Nd.val] at this
  cases a; cases b
  simp_all
end Go.Proofs.Ytkelbbalffijbaa


/- Maps from nodes to integers, as lists. -/
namespace Go.Tk
open Go.RowKit Go.Maps
theorem ownsMap_tight {H : Type} {P : Program} {k : TypeId} {R : Value → Option (DataW H × List MemPlace)} {w : World} {b n : Nat} {D : DataW H} (h : w.ownsMap P k R b n D) : w.ownsMap P k R b (Maps.size D) D := by
  obtain ⟨es, clock, hb, F, hs, rfl⟩ := h
  exact ⟨es, clock, hb, F, by show es.size ≤ (List.foldr DataW.insert [] _).length; rw [length_sorted]; simp, rfl⟩
theorem ownsMap_frame {H : Type} {P : Program} {k : TypeId} {R : Value → Option (DataW H × List MemPlace)} {w w' : World} {b n : Nat} {D : DataW H} {S : Nat → Prop} (h : w.ownsMap P k R b n D) (hf : Frm S w w') (hS : ¬ S b) : w'.ownsMap P k R b n D := by
  have hlt := h.lt
  obtain ⟨es, clock, hb, rest⟩ := h
  exact ⟨es, clock, (hf.block b hlt hS).trans hb, rest⟩
end Go.Tk
namespace Go.Proofs.Ytkelbbalffijbaa
open Go.RowKit Go.Tk Go.Maps

abbrev Ent := Nd × Int
def keys (L : List Ent) : List Nd := L.map (·.1)
/-- the datum holds just the entries of the list -/
structure NRel (q : IntKind) (D : DataW Unit) (L : List Ent) : Prop where
  nd : (keys L).Nodup
  ok : ∀ p ∈ L, p.1.ok ∧ (Lit.int q p.2).wf = true
  dom : ∀ n : Nd, n.ok → (Maps.has D n.key = true ↔ n ∈ keys L)
  val : ∀ p ∈ L, ∀ z, D.atKey p.1.key z = .lit (.int q p.2)
  size : Maps.size D = L.length
theorem mem_keys {L : List Ent} {n : Nd} : n ∈ keys L ↔ ∃ r, (n, r) ∈ L := by
  unfold keys
  rw [List.mem_map]
  constructor
  · rintro ⟨⟨a, r⟩, h, rfl⟩; exact ⟨r, h⟩
  · rintro ⟨r, h⟩; exact ⟨_, h, rfl⟩
theorem NRel.made (q : IntKind) : NRel q (.map []) [] := ⟨List.nodup_nil, by simp, fun n _ => by simp [keys]; rfl, by simp, rfl⟩
theorem NRel.put {q : IntKind} {D : DataW Unit} {L : List Ent} (h : NRel q D L) (ht : Tidy D) (hm : IsMap D) {n : Nd} {r : Int} (hn : n.ok) (hr : (Lit.int q r).wf = true) (hnew : n ∉ keys L) : NRel q (D.put n.key (.lit (.int q r))) (L ++ [(n, r)]) := by
  have hno : ∀ m : Nd, m.ok → m ≠ n → m.key ≠ n.key := fun m hm hne e => hne (nd_key_inj hm hn e)
  have hfalse : Maps.has D n.key = false := by
    rcases hh : Maps.has D n.key with _ | _
    · rfl
    · exact absurd ((h.dom n hn).1 hh) hnew
  refine ⟨?_, ?_, ?_, ?_, ?_⟩
  · have : keys (L ++ [(n, r)]) = keys L ++ [n] := by simp [keys]
    rw [this, List.nodup_append]
    exact ⟨h.nd, by simp, fun a ha b hb e => hnew (by simp at hb; rw [← hb, ← e]; exact ha)⟩
  · intro p hp
    rcases List.mem_append.1 hp with hp | hp
    · exact h.ok p hp
    · obtain rfl := List.mem_singleton.1 hp
      exact ⟨hn, hr⟩
  · intro m hmo
    have : keys (L ++ [(n, r)]) = keys L ++ [n] := by simp [keys]
    rw [this, List.mem_append, List.mem_singleton]
    by_cases e : m = n
    · subst e
      exact ⟨fun _ => .inr rfl, fun _ => has_put_same hm m.isKey _⟩
    · rw [has_put_other (hno m hmo e), h.dom m hmo]
      exact ⟨.inl, fun h => h.elim id (fun h => absurd h e)⟩
  · intro p hp z
    rcases List.mem_append.1 hp with hp | hp
    · rw [atKey_put_other (hno p.1 (h.ok p hp).1 (fun e => hnew (e ▸ mem_keys.2 ⟨p.2, hp⟩)))]
      exact h.val p hp z
    · obtain rfl := List.mem_singleton.1 hp
      exact atKey_put_same hm n.isKey _ z
  · rw [size_put ht, hfalse, h.size]; simp
theorem NRel.set {q : IntKind} {D : DataW Unit} {L L' : List Ent} (h : NRel q D L) (ht : Tidy D) (hm : IsMap D) {n : Nd} {r : Int} (hn : n.ok) (hr : (Lit.int q r).wf = true) (hold : n ∈ keys L) (hL : L' = L.map fun p => if p.1 = n then (n, r) else p) : NRel q (D.put n.key (.lit (.int q r))) L' := by
  have hno : ∀ m : Nd, m.ok → m ≠ n → m.key ≠ n.key := fun m hm hne e => hne (nd_key_inj hm hn e)
  have hk : keys L' = keys L := by
    rw [hL]
    unfold keys
    rw [List.map_map]
    refine List.map_congr_left fun p _ => ?_
    by_cases e : p.1 = n
    · simp [e]
    · simp [e]
  refine ⟨by rw [hk]; exact h.nd, ?_, ?_, ?_, ?_⟩
  · intro p hp
    rw [hL] at hp
    obtain ⟨p0, hp0, rfl⟩ := List.mem_map.1 hp
    by_cases e : p0.1 = n
    · rw [if_pos e]; exact ⟨hn, hr⟩
    · rw [if_neg e]; exact h.ok p0 hp0
  · intro m hmo
    rw [hk]
    by_cases e : m = n
    · subst e
      exact ⟨fun _ => hold, fun _ => has_put_same hm m.isKey _⟩
    · rw [has_put_other (hno m hmo e), h.dom m hmo]
  · intro p hp z
    rw [hL] at hp
    obtain ⟨p0, hp0, rfl⟩ := List.mem_map.1 hp
    by_cases e : p0.1 = n
    · rw [if_pos e]; exact atKey_put_same hm n.isKey _ z
    · rw [if_neg e, atKey_put_other (hno p0.1 (h.ok p0 hp0).1 e)]; exact h.val p0 hp0 z
  · rw [size_put ht, (h.dom n hn).2 hold, h.size, hL]; simp
theorem nodup_filter {α : Type} {l : List α} (p : α → Bool) (h : l.Nodup) : (l.filter p).Nodup := h.sublist List.filter_sublist
def without (n : Nd) (L : List Ent) : List Ent := L.filter fun p => decide (p.1 ≠ n)
theorem keys_without (n : Nd) (L : List Ent) : keys (without n L) = (keys L).filter fun m => decide (m ≠ n) := by
  unfold keys without
  induction L with
  | nil => rfl
  | cons a L ih =>
    rw [List.filter_cons, List.map_cons, List.filter_cons]
    by_cases e : a.1 = n
    · rw [if_neg (by simp [e]), if_neg (by simp [e])]; exact ih
    · rw [if_pos (by simp [e]), if_pos (by simp [e]), List.map_cons, ih]
theorem without_len {n : Nd} : ∀ {L : List Ent}, (keys L).Nodup → n ∈ keys L → (without n L).length + 1 = L.length
  | [], _, h => by cases h
  | p :: L, hn, h => by
    obtain ⟨h1, h2⟩ := List.nodup_cons.1 (show (p.1 :: keys L).Nodup from hn)
    by_cases e : p.1 = n
    · have : without n (p :: L) = L := by
        unfold without
        rw [List.filter_cons, if_neg (by simp [e])]
        refine List.filter_eq_self.2 fun x hx => ?_
        simp
        intro hx2
        exact h1 (by rw [e, ← hx2]; exact List.mem_map_of_mem hx)
      rw [this]; rfl
    · have h3 : n ∈ keys L := by
        rcases List.mem_cons.1 (show n ∈ p.1 :: keys L from h) with h | h
        · exact absurd h.symm e
        · exact h
      have : without n (p :: L) = p :: without n L := by
        unfold without
        rw [List.filter_cons, if_pos (by simp [e])]
      rw [this, List.length_cons, List.length_cons, without_len h2 h3]
theorem NRel.del {q : IntKind} {D : DataW Unit} {L : List Ent} (h : NRel q D L) (ht : Tidy D) {n : Nd} (hn : n.ok) (hold : n ∈ keys L) : NRel q (D.del n.key) (without n L) := by
  have hno : ∀ m : Nd, m.ok → m ≠ n → m.key ≠ n.key := fun m hm hne e => hne (nd_key_inj hm hn e)
  refine ⟨by rw [keys_without]; exact nodup_filter _ h.nd, fun p hp => h.ok p ((List.mem_filter.1 hp).1), fun m hm => ?_, fun p hp z => ?_, ?_⟩
  · rw [keys_without, List.mem_filter]
    by_cases e : m = n
    · subst e
      rw [has_del_same]; simp
    · rw [has_del_other (hno m hm e), h.dom m hm]; simp [e]
  · obtain ⟨h1, h2⟩ := List.mem_filter.1 hp
    rw [atKey_del_other (hno p.1 (h.ok p h1).1 (by simpa using h2))]
    exact h.val p h1 z
  · have := size_del (k := n.key) ht
    rw [(h.dom n hn).2 hold, h.size] at this
    have h2 := without_len h.nd hold
    simp at this
    omega
theorem NRel.perm {q : IntKind} {D : DataW Unit} {L L' : List Ent} (h : NRel q D L) (hp : L.Perm L') : NRel q D L' :=
  ⟨(List.Perm.nodup_iff (hp.map Prod.fst)).1 h.nd, fun p hp' => h.ok p (hp.mem_iff.2 hp'), fun n hn => (h.dom n hn).trans (hp.map Prod.fst).mem_iff, fun p hp' => h.val p (hp.mem_iff.2 hp'), h.size.trans hp.length_eq⟩
noncomputable def refR (e : TypeId) : Value → Option (DataW Unit × List MemPlace) := plainElem Try.prog e
/-- block b is a map that holds just the entries of the list -/
def NM (e : TypeId) (q : IntKind) (w : World) (b : Nat) (L : List Ent) : Prop := ∃ D : DataW Unit, w.ownsMap Try.prog 36 (refR e) b L.length D ∧ NRel q D L
theorem NM.lt {e : TypeId} {q : IntKind} {w : World} {b : Nat} {L : List Ent} (h : NM e q w b L) : b < w.heap.size := by
  obtain ⟨D, h, _⟩ := h
  exact h.lt
theorem NM.made (e : TypeId) (q : IntKind) (w : World) : NM e q (w.alloc (.map #[] 0)) w.heap.size [] := ⟨_, World.ownsMap_made _ _ _ _, NRel.made q⟩
theorem NM.frm {e : TypeId} {q : IntKind} {w w' : World} {b : Nat} {L : List Ent} {S : Nat → Prop} (h : NM e q w b L) (hf : Frm S w w') (hS : ¬ S b) : NM e q w' b L := by
  obtain ⟨D, h1, h2⟩ := h
  exact ⟨D, ownsMap_frame h1 hf hS, h2⟩
theorem NM.perm {e : TypeId} {q : IntKind} {w : World} {b : Nat} {L L' : List Ent} (h : NM e q w b L) (hp : L.Perm L') : NM e q w b L' := by
  obtain ⟨D, h1, h2⟩ := h
  exact ⟨D, by rw [← hp.length_eq]; exact h1, h2.perm hp⟩
/-- what a list says of a node -/
def look (L : List Ent) (n : Nd) : Option Int := (L.find? fun p => decide (p.1 = n)).map (·.2)
theorem look_none {L : List Ent} {n : Nd} : look L n = none ↔ n ∉ keys L := by
  unfold look
  rw [Option.map_eq_none_iff, List.find?_eq_none, mem_keys]
  constructor
  · rintro h ⟨r, hr⟩
    have := h _ hr
    simp at this
  · rintro h ⟨m, r⟩ hp
    simp
    rintro rfl
    exact h ⟨r, hp⟩
theorem look_mem {L : List Ent} {n : Nd} {r : Int} (h : look L n = some r) : (n, r) ∈ L := by
  unfold look at h
  obtain ⟨⟨m, r'⟩, hp, rfl⟩ := Option.map_eq_some_iff.1 h
  have h1 := List.find?_some hp
  simp at h1
  subst h1
  exact List.mem_of_find?_eq_some hp
theorem pair_uniq {L : List Ent} (hn : (keys L).Nodup) {n : Nd} {r s : Int} (h1 : (n, r) ∈ L) (h2 : (n, s) ∈ L) : r = s := by
  induction L with
  | nil => cases h1
  | cons a L ih =>
    obtain ⟨ha, hn'⟩ := List.nodup_cons.1 (show (a.1 :: keys L).Nodup from hn)
    rcases List.mem_cons.1 h1 with e1 | h1 <;> rcases List.mem_cons.1 h2 with e2 | h2
    · rw [← e1] at e2; exact (Prod.mk.inj e2).2.symm
    · exact absurd (mem_keys.2 ⟨s, h2⟩) (by rw [← e1] at ha; exact ha)
    · exact absurd (mem_keys.2 ⟨r, h1⟩) (by rw [← e2] at ha; exact ha)
    · exact ih hn' h1 h2
theorem look_some {L : List Ent} (hn : (keys L).Nodup) {n : Nd} {r : Int} (h : (n, r) ∈ L) : look L n = some r := by
  rcases hh : look L n with _ | s
  · exact absurd (mem_keys.2 ⟨r, h⟩) (look_none.1 hh)
  · rw [pair_uniq hn h (look_mem hh)]
end Go.Proofs.Ytkelbbalffijbaa


/- The unique table: what it holds; check. -/
namespace Go.Proofs.Ytkelbbalffijbaa
open Go.RowKit Go.Tk Go.Maps

/-- where a table lies: its record, its slice, the map of each variable -/
structure UTab where
  T : Nat
  sb : Nat
  mb : Nat → Nat
def ofv (L : List Ent) (v : Nat) : List Ent := L.filter fun p => decide (p.1.v = (v : Int))
/-- a table of so many variables that holds just these entries -/
structure UT (w : World) (U : UTab) (vars : Nat) (L : List Ent) : Prop where
  hv : 1 ≤ vars ∧ vars ≤ 64
  t : Blk w U.T 63 #[.slice (some ⟨U.sb, 0, none⟩) vars vars]
  s : ∀ v, v < vars → w.cell? ⟨U.sb, v, none⟩ = some (.map (some (U.mb v)))
  sl : U.sb < w.heap.size
  m : ∀ v, v < vars → NM 34 .u32 w (U.mb v) (ofv L v)
  inj : ∀ u v, u < vars → v < vars → U.mb u = U.mb v → u = v
  nt : ∀ v, v < vars → U.mb v ≠ U.T ∧ U.mb v ≠ U.sb
  vs : ∀ p ∈ L, 0 ≤ p.1.v ∧ p.1.v < vars
  nd : (keys L).Nodup
def UB (U : UTab) (vars : Nat) (x : Nat) : Prop := ∃ v, v < vars ∧ x = U.mb v
theorem UT.frm {w w' : World} {U : UTab} {vars : Nat} {L : List Ent} {S : Nat → Prop} (h : UT w U vars L) (hf : Frm S w w') (h1 : ¬ S U.T) (h2 : ¬ S U.sb) (h3 : ∀ v, v < vars → ¬ S (U.mb v)) : UT w' U vars L :=
  ⟨h.hv, h.t.frm hf h1, fun v hv => (hf.cell h.sl h2).trans (h.s v hv), Nat.lt_of_lt_of_le h.sl hf.size, fun v hv => (h.m v hv).frm hf (h3 v hv), h.inj, h.nt, h.vs, h.nd⟩
theorem UT.same {w w' : World} {U : UTab} {vars : Nat} {L : List Ent} (h : UT w U vars L) (hf : Same w w') : UT w' U vars L := h.frm hf id id fun _ _ => id
/-- one map has turned -/
theorem UT.turn {w w' : World} {U : UTab} {vars : Nat} {L L' : List Ent} {v : Nat} (h : UT w U vars L) (hv : v < vars) (hf : Frm (fun x => x = U.mb v) w w') (hm : NM 34 .u32 w' (U.mb v) (ofv L' v)) (ho : ∀ u, u < vars → u ≠ v → ofv L' u = ofv L u) (hvs : ∀ p ∈ L', 0 ≤ p.1.v ∧ p.1.v < vars) (hnd : (keys L').Nodup) : UT w' U vars L' :=
  ⟨h.hv, h.t.frm hf (fun e => (h.nt v hv).1 e.symm), fun u hu => (hf.cell h.sl (fun e => (h.nt v hv).2 e.symm)).trans (h.s u hu), Nat.lt_of_lt_of_le h.sl hf.size, fun u hu => by
    by_cases e : u = v
    · subst e; exact hm
    · rw [ho u hu e]; exact (h.m u hu).frm hf (fun e2 => e (h.inj u v hu hv e2)), h.inj, h.nt, hvs, hnd⟩
/-- the error of a variable -/
def vErr (vars : Nat) (v : Int) : Int := if 0 ≤ v ∧ v < vars then 0 else 2
set_option maxRecDepth 100000 in
theorem uqcheck_any (U : UTab) (vars : Nat) (L : List Ent) (v : Int) (w : World) (h : UT w U vars L) :
    Calls Try.prog 23 #[.pointer (some ⟨U.T, 0, none⟩), .int .i64 v] w fun e w' => e = .returned (.int .i64 (vErr vars v)) ∧ w' = w := by
  have ct : w.cell? ⟨U.T, 0, none⟩ = some (.slice (some ⟨U.sb, 0, none⟩) vars vars) := h.t.cell 0
  have lt := h.t.lt
  clear h
  rcases Int.lt_or_le v 0 with h1 | h1
  · have hE : vErr vars v = 2 := if_neg (by omega)
    rw [hE]
    go_enter Try.func23, Try.ntmps23
    go_wp2
    go_ret
    exact ⟨rfl, rfl⟩
  · have h1' : ¬ v < 0 := by omega
    by_cases h2 : v < vars
    · have hE : vErr vars v = 0 := if_pos ⟨h1, h2⟩
      rw [hE]
      go_enter Try.func23, Try.ntmps23
      go_wp2
      go_ret
      exact ⟨rfl, rfl⟩
    · have hE : vErr vars v = 2 := if_neg (by omega)
      rw [hE]
      go_enter Try.func23, Try.ntmps23
      go_wp2
      go_ret
      exact ⟨rfl, rfl⟩
set_option maxRecDepth 100000 in
theorem uqcheck_nil (v : Int) (w : World) :
    Calls Try.prog 23 #[.pointer none, .int .i64 v] w fun e w' => e = .returned (.int .i64 10) ∧ w' = w := by
  go_enter Try.func23, Try.ntmps23
  go_wp2
  go_ret
  exact ⟨rfl, rfl⟩
end Go.Proofs.Ytkelbbalffijbaa


/- The reference's table of nodes: in, place, DocFind. -/
namespace Go.Proofs.Ytkelbbalffijbaa
open Go.RowKit Go.Tk Go.Maps

def ecells (p : Ent) : List Value := [.int .i64 p.1.v, .int .u32 p.1.lo, .int .u32 p.1.hi, .int .u32 p.2]
theorem ecells_len (p : Ent) : (ecells p).length = 4 := rfl
abbrev EL (w : World) (A : Option Addr) (L : List Ent) : Prop := Sl w 4 ecells A L.length L
def dtab (vars : Int) (A : Option Addr) (n C : Nat) : Value := .agg #[.int .i64 vars, .slice A n C]
set_option maxRecDepth 100000 in
theorem urin_any (vars : Int) (A : Option Addr) (n C : Nat) (v : Int) (w : World) :
    Calls Try.prog 26 #[dtab vars A n C, .int .i64 v] w fun e w' => e = .returned (.bool (decide (0 ≤ v ∧ v < vars))) ∧ Same w w' := by
  unfold dtab
  by_cases h1 : 0 ≤ v
  · by_cases h2 : v < vars
    · rw [decide_eq_true ⟨h1, h2⟩]
      go_enter Try.func26, Try.ntmps26
      go_wp2
      go_ret
      exact ⟨rfl, (Frm.refl _ _).alloc _⟩
    · have h2' : ¬ v < vars := h2
      rw [decide_eq_false (by omega)]
      go_enter Try.func26, Try.ntmps26
      go_wp2
      go_ret
      exact ⟨rfl, (Frm.refl _ _).alloc _⟩
  · rw [decide_eq_false (by omega)]
    go_enter Try.func26, Try.ntmps26
    go_wp2
    go_ret
    exact ⟨rfl, (Frm.refl _ _).alloc _⟩
/-- the place of a node -/
def plcN (L : List Ent) (n : Nd) : Int := match L.findIdx? fun p => decide (p.1 = n) with | some i => (i : Int) | none => -1
theorem plcN_hit {L : List Ent} {n : Nd} {k : Nat} {p : Ent} (hk : ∀ i p, i < k → L[i]? = some p → p.1 ≠ n) (hp : L[k]? = some p) (he : p.1 = n) : plcN L n = k := by
  unfold plcN
  have : L.findIdx? (fun p => decide (p.1 = n)) = some k := by
    rw [List.findIdx?_eq_some_iff_getElem]
    obtain ⟨hlt, hpe⟩ := List.getElem?_eq_some_iff.1 hp
    refine ⟨hlt, by rw [hpe]; simpa using he, fun j hj => ?_⟩
    have := hk j _ hj (List.getElem?_eq_getElem (by omega))
    simpa using this
  rw [this]
theorem plcN_miss {L : List Ent} {n : Nd} (hk : ∀ i p, i < L.length → L[i]? = some p → p.1 ≠ n) : plcN L n = -1 := by
  unfold plcN
  have : L.findIdx? (fun p => decide (p.1 = n)) = none := by
    rw [List.findIdx?_eq_none_iff]
    intro p hp
    obtain ⟨i, hi, rfl⟩ := List.getElem_of_mem hp
    simpa using hk i _ hi (List.getElem?_eq_getElem hi)
  rw [this]
set_option maxRecDepth 100000 in
set_option maxHeartbeats 2000000 in
theorem urplace_any (vars : Int) (A : Option Addr) (C : Nat) (L : List Ent) (n : Nd) (w : World) (h : EL w A L) (hb : L.length ≤ 1000000000000000000) :
    Calls Try.prog 27 #[dtab vars A L.length C, n.val] w fun e w' => e = .returned (.int .i64 (plcN L n)) ∧ Same w w' := by
  unfold dtab Nd.val
  have H := Lib.hid (show Sl w 4 ecells A L.length L from h)
  obtain ⟨N, hN⟩ : ∃ z, z = L.length := ⟨_, rfl⟩
  rw [← hN] at hb H ⊢
  have HN := Lib.hid hN
  clear h hN
  go_enter Try.func27, Try.ntmps27
  go_upto_region 1 with fail
  refine wp_world fun w1 hw1 => ?_
  have hs1 : Same w w1 := by rw [hw1]; exact ((Frm.refl _ _).alloc _).alloc _
  have hX : Blk w1 w.heap.size 30 #[.int .i64 vars, .slice A N C] := by rw [hw1]; exact (Blk.new _ _ _).alloc _
  have hY : Blk w1 (w.heap.size + 1) 36 #[.int .i64 n.v, .int .u32 n.lo, .int .u32 n.hi] := by
    rw [hw1]
    have := Blk.new (w.alloc (.cells #[.int .i64 vars, .slice A N C] 30)) 36 #[.int .i64 n.v, .int .u32 n.lo, .int .u32 n.hi]
    rwa [World.size_alloc] at this
  obtain ⟨X, hXX⟩ : ∃ z, z = w.heap.size := ⟨_, rfl⟩
  obtain ⟨Y, hYY⟩ : ∃ z, z = w.heap.size + 1 := ⟨_, rfl⟩
  rw [← hYY] at hY ⊢
  rw [← hXX] at hX ⊢
  have cX1 : w1.cell? ⟨X, 1, none⟩ = some (.slice A N C) := hX.cell 1
  have lX := hX.lt
  have HY := Lib.hid hY
  have HS1 := Lib.hid hs1
  clear hw1 hs1 hX hXX hYY hY
  go_wp2
  go_loopw [10] (fun i wi => ∃ k : Nat, i = .int .i64 k ∧ k ≤ N ∧ Same w1 wi ∧ ∀ i p, i < k → L[i]? = some p → p.1 ≠ n) (fun i _ => N - (intOf i).toNat)
  case atStart => exact ⟨0, rfl, Nat.zero_le _, Frm.refl _ _, fun i p hi => absurd hi (Nat.not_lt_zero _)⟩
  case round =>
    obtain ⟨k, rfl, hk, hs, hno⟩ := hrel
    by_cases hlt : k < N
    · have hlt' : k < L.length := by rw [← HN.out]; exact hlt
      obtain ⟨⟨⟨pv, pl, ph⟩, pr⟩, hp⟩ : ∃ p, L[k]? = some p := ⟨_, List.getElem?_eq_getElem hlt'⟩
      obtain ⟨bl, o, hA, hbl, hc⟩ := (Sl.same (Sl.same H.out HS1.out) hs).get k _ hp
      have c0 : wr.cell? ⟨bl, o + k * 4, none⟩ = some (.int .i64 pv) := hc 0 (by omega)
      have c1 : wr.cell? ⟨bl, o + k * 4 + 1, none⟩ = some (.int .u32 pl) := hc 1 (by omega)
      have c2 : wr.cell? ⟨bl, o + k * 4 + 2, none⟩ = some (.int .u32 ph) := hc 2 (by omega)
      have c3 : wr.cell? ⟨bl, o + k * 4 + 3, none⟩ = some (.int .u32 pr) := hc 3 (by omega)
      subst hA
      have hk0 : (0 : Int) ≤ k := by omega
      have hk1 : (k : Int) < N := by omega
      have HS := Lib.hid hs
      have HP := Lib.hid hp
      have HNO := Lib.hid hno
      clear hc hs hp hno hlt'
      go_upto_region 4 with fail
      refine wp_world fun w2 hw2 => ?_
      have hs2 : Same wr w2 := by rw [hw2]; exact (Frm.refl _ _).alloc _
      have hZ : Blk w2 wr.heap.size 75 #[.int .i64 pv, .int .u32 pl, .int .u32 ph, .int .u32 pr] := by rw [hw2]; exact Blk.new _ _ _
      have hY := (HY.out.frm HS.out id).frm hs2 id
      clear c0 c1 c2 c3 hbl hw2
      obtain ⟨Z, hZZ⟩ : ∃ z, z = wr.heap.size := ⟨_, rfl⟩
      rw [← hZZ] at hZ ⊢
      clear hZZ
      have cZ0 : w2.cell? ⟨Z, 0, none⟩ = some (.int .i64 pv) := hZ.cell 0
      have cZ1 : w2.cell? ⟨Z, 1, none⟩ = some (.int .u32 pl) := hZ.cell 1
      have cZ2 : w2.cell? ⟨Z, 2, none⟩ = some (.int .u32 ph) := hZ.cell 2
      have cY0 : w2.cell? ⟨Y, 0, none⟩ = some (.int .i64 n.v) := hY.cell 0
      have cY1 : w2.cell? ⟨Y, 1, none⟩ = some (.int .u32 n.lo) := hY.cell 1
      have cY2 : w2.cell? ⟨Y, 2, none⟩ = some (.int .u32 n.hi) := hY.cell 2
      have lZ := hZ.lt
      have lY := hY.lt
      have HSS := Lib.hid (HS.out.trans hs2 (fun _ _ h => h))
      have heq := fun w => eql_nd ⟨pv, pl, ph⟩ n w
      simp only [Nd.val] at heq
      clear hZ hY hs2
      by_cases he : (⟨pv, pl, ph⟩ : Nd) = n
      · simp only [he, decide_true] at heq
        have HE := Lib.hid he
        clear he
        go_wp2
        go_ret
        exact ⟨by rw [plcN_hit HNO.out HP.out HE.out]; rfl, HS1.out.trans HSS.out (fun _ _ h => h)⟩
      · simp only [he, decide_false] at heq
        have HE := Lib.hid he
        clear he
        go_wp2
        go_roundw
        case rel =>
          refine ⟨k + 1, by go_num, hlt, HSS.out, fun i p hi hp => ?_⟩
          by_cases e : i = k
          · subst e
            rw [HP.out] at hp
            cases hp
            exact HE.out
          · exact HNO.out i p (by omega) hp
        case measure => simp [intOf] <;> omega
    · obtain rfl : k = N := by omega
      have HNO := Lib.hid (plcN_miss (L := L) (n := n) (by rw [← HN.out]; exact hno))
      have HSS := Lib.hid (HS1.out.trans hs (fun _ _ h => h))
      clear hno hs
      go_wp2
      go_ret
      exact ⟨by rw [HNO.out]; rfl, HSS.out⟩
end Go.Proofs.Ytkelbbalffijbaa


/- The reference's table of nodes: DocFind, DocNew. -/
namespace Go.Proofs.Ytkelbbalffijbaa
open Go.RowKit Go.Tk Go.Maps

abbrev OE (w : World) (A : Option Addr) (C : Nat) (L : List Ent) : Prop := Go.Tk.Own w 75 4 ecells A L.length C L
theorem OE.el {w : World} {A : Option Addr} {C : Nat} {L : List Ent} (h : OE w A C L) : EL w A L := Own.sl ecells_len h
theorem plcN_cases (L : List Ent) (n : Nd) : (plcN L n = -1 ∧ look L n = none) ∨ ∃ i r, plcN L n = (i : Nat) ∧ i < L.length ∧ L[i]? = some (n, r) ∧ look L n = some r := by
  unfold plcN look
  rcases h : L.findIdx? (fun p => decide (p.1 = n)) with _ | i
  · left
    refine ⟨by simp only [h], ?_⟩
    rw [Option.map_eq_none_iff, List.find?_eq_none]
    rw [List.findIdx?_eq_none_iff] at h
    intro p hp
    simpa using h p hp
  · right
    have h0 := h
    rw [List.findIdx?_eq_some_iff_getElem] at h
    obtain ⟨hi, h1, h2⟩ := h
    have h1' : (L[i]).1 = n := by simpa using h1
    refine ⟨i, (L[i]).2, by simp only [h0], hi, ?_, ?_⟩
    · rw [List.getElem?_eq_getElem hi, ← h1']
    · have : L.find? (fun p => decide (p.1 = n)) = some L[i] := by
        rw [List.find?_eq_some_iff_getElem]
        exact ⟨h1, i, hi, rfl, fun j hj => by have := h2 j hj; simpa using this⟩
      rw [this]; rfl
set_option maxRecDepth 100000 in
set_option maxHeartbeats 2000000 in
theorem urfind_any (vars : Int) (A : Option Addr) (C : Nat) (L : List Ent) (n : Nd) (w : World) (h : EL w A L) (hb : L.length ≤ 1000000000000000000) :
    Calls Try.prog 22 #[dtab vars A L.length C, n.val] w fun e w' => e = .returned (.tuple #[.int .u32 ((look L n).getD 0), .bool (look L n).isSome]) ∧ Same w w' := by
  have HPL := Lib.hid (fun w (hh : EL w A L) => urplace_any vars A C L n w hh hb)
  have H := Lib.hid (show Sl w 4 ecells A L.length L from h)
  have hc := plcN_cases L n
  clear h
  obtain ⟨N, hN⟩ : ∃ z, z = L.length := ⟨_, rfl⟩
  have HN := Lib.hid hN
  unfold dtab Nd.val at *
  rw [← hN] at hb hc H HPL ⊢
  clear hN
  have HB := Lib.hid hb
  clear hb
  go_enter Try.func22, Try.ntmps22
  go_upto_region 1 with fail
  refine wp_world fun w1 hw1 => ?_
  have hs1 : Same w w1 := by rw [hw1]; exact ((Frm.refl _ _).alloc _).alloc _
  have hX : Blk w1 w.heap.size 30 #[.int .i64 vars, .slice A N C] := by rw [hw1]; exact (Blk.new _ _ _).alloc _
  have hY : Blk w1 (w.heap.size + 1) 36 #[.int .i64 n.v, .int .u32 n.lo, .int .u32 n.hi] := by
    rw [hw1]
    have := Blk.new (w.alloc (.cells #[.int .i64 vars, .slice A N C] 30)) 36 #[.int .i64 n.v, .int .u32 n.lo, .int .u32 n.hi]
    rwa [World.size_alloc] at this
  obtain ⟨X, hXX⟩ : ∃ z, z = w.heap.size := ⟨_, rfl⟩
  obtain ⟨Y, hYY⟩ : ∃ z, z = w.heap.size + 1 := ⟨_, rfl⟩
  rw [← hYY] at hY ⊢
  rw [← hXX] at hX ⊢
  have cX0 : w1.cell? ⟨X, 0, none⟩ = some (.int .i64 vars) := hX.cell 0
  have cX1 : w1.cell? ⟨X, 1, none⟩ = some (.slice A N C) := hX.cell 1
  have cY0 : w1.cell? ⟨Y, 0, none⟩ = some (.int .i64 n.v) := hY.cell 0
  have cY1 : w1.cell? ⟨Y, 1, none⟩ = some (.int .u32 n.lo) := hY.cell 1
  have cY2 : w1.cell? ⟨Y, 2, none⟩ = some (.int .u32 n.hi) := hY.cell 2
  have lX := hX.lt
  have lY := hY.lt
  have HX := Lib.hid hX
  have H1 := Lib.hid (Sl.same H.out hs1)
  have HS1 := Lib.hid hs1
  have HC := Lib.hid hc
  clear hw1 hs1 hX hXX hYY hY hc
  go_wp2_with (fail)
  refine (HPL.out w1 (show Sl w1 4 ecells A L.length L by rw [← HN.out]; exact H1.out)).mono ?_
  rintro e w2 ⟨rfl, hs2⟩
  have cX1 : w2.cell? ⟨X, 1, none⟩ = some (.slice A N C) := (HX.out.frm hs2 id).cell 1
  have lX := (HX.out.frm hs2 id).lt
  have HS2 := Lib.hid (HS1.out.trans hs2 (fun _ _ h => h))
  rcases HC.out with ⟨hp, hl⟩ | ⟨i, r, hp, hi, hr, hl⟩
  · rw [hp]
    have HL := Lib.hid hl
    clear hs2 hp hl cX0 cY0 cY1 cY2 lY HPL
    go_wp2
    go_ret2
    exact ⟨by rw [HL.out]; rfl, HS2.out⟩
  · rw [hp]
    obtain ⟨b, o, rfl, hb, hcell⟩ := (Sl.same H1.out hs2).get i _ hr
    have c3 : w2.cell? ⟨b, o + i * 4 + 3, none⟩ = some (.int .u32 r) := hcell 3 (by omega)
    have hi0 : (0 : Int) ≤ i := by omega
    have hi1 : (i : Int) < N := by omega
    have hi2 : ¬ (i : Int) < 0 := by omega
    have HL := Lib.hid hl
    clear hs2 hp hl cX0 cY0 cY1 cY2 lY HPL hcell hr
    go_wp2
    go_ret2
    exact ⟨by rw [HL.out]; rfl, HS2.out⟩
/-- a new table of the reference -/
def RetD (w : World) (vars : Int) (L : List Ent) (err : Int) (e : Ending) (w' : World) : Prop := ∃ A C, e = .returned (.tuple #[dtab vars A L.length C, .int .i64 err]) ∧ OE w' A C L ∧ Same w w'
set_option maxRecDepth 100000 in
theorem urnew_any (vars : Int) (w : World) :
    Calls Try.prog 10 #[.int .i64 vars] w fun e w' => RetD w (if 1 ≤ vars ∧ vars ≤ 64 then vars else 0) [] (if 1 ≤ vars ∧ vars ≤ 64 then 0 else 1) e w' := by
  have hfin : ∀ (x : Int) (we : World), Blk we w.heap.size 30 #[.int .i64 x, .slice none 0 0] → we.cell? ⟨w.heap.size, 0, none⟩ = some (.int .i64 x) ∧ we.cell? ⟨w.heap.size, 1, none⟩ = some (.slice none 0 0) := fun x we h => ⟨h.cell 0, h.cell 1⟩
  by_cases hv : 1 ≤ vars ∧ vars ≤ 64
  · rw [if_pos hv, if_pos hv]
    have h1 : ¬ vars < 1 := by omega
    have h2 : ¬ 64 < vars := by omega
    go_enter Try.func10, Try.ntmps10
    go_wp2
    refine wp_post fun we hwe => ?_
    obtain ⟨r0, r1⟩ := hfin vars we (by rw [hwe]; exact Blk.new _ _ _)
    have hs : Same w we := by rw [hwe]; exact (Frm.refl _ _).alloc _
    clear hwe
    refine bodyPost_ret (v := .tuple #[.agg #[.int .i64 vars, .slice none 0 0], .int .i64 0]) (by simp [results, Try.results10, go_sem, r0, r1]) rfl ?_
    exact ⟨none, 0, rfl, Own.nil _ _ _ _, hs⟩
  · rw [if_neg hv, if_neg hv]
    by_cases h1 : vars < 1
    · clear hv
      go_enter Try.func10, Try.ntmps10
      go_wp2
      refine wp_post fun we hwe => ?_
      obtain ⟨r0, r1⟩ := hfin 0 we (by rw [hwe]; exact Blk.new _ _ _)
      have hs : Same w we := by rw [hwe]; exact (Frm.refl _ _).alloc _
      clear hwe
      refine bodyPost_ret (v := .tuple #[.agg #[.int .i64 0, .slice none 0 0], .int .i64 1]) (by simp [results, Try.results10, go_sem, r0, r1]) rfl ?_
      exact ⟨none, 0, rfl, Own.nil _ _ _ _, hs⟩
    · have h2 : 64 < vars := by omega
      clear hv
      go_enter Try.func10, Try.ntmps10
      go_wp2
      refine wp_post fun we hwe => ?_
      obtain ⟨r0, r1⟩ := hfin 0 we (by rw [hwe]; exact Blk.new _ _ _)
      have hs : Same w we := by rw [hwe]; exact (Frm.refl _ _).alloc _
      clear hwe
      refine bodyPost_ret (v := .tuple #[.agg #[.int .i64 0, .slice none 0 0], .int .i64 1]) (by simp [results, Try.results10, go_sem, r0, r1]) rfl ?_
      exact ⟨none, 0, rfl, Own.nil _ _ _ _, hs⟩
end Go.Proofs.Ytkelbbalffijbaa


/- Operations on maps of nodes. -/
namespace Go.Proofs.Ytkelbbalffijbaa
open Go.RowKit Go.Tk Go.Maps

section
variable {o : Oper} {a : Act} {w : World} {K : Act → World → Prop} {Q : Exit → Act → World → Prop} {e : TypeId} {q : IntKind} {b : Nat} {L : List Ent}
theorem NM.tidy (h : NM e q w b L) : ∃ D, w.ownsMap Try.prog 36 (refR e) b L.length D ∧ NRel q D L ∧ Tidy D ∧ IsMap D := by
  obtain ⟨D, h1, h2⟩ := h
  exact ⟨D, h1, h2, h1.tidy KN, h1.isMap⟩
theorem dlit_inj {q : IntKind} {x y : Int} (h : (DataW.lit (.int q x) : DataW Unit) = .lit (.int q y)) : x = y := by
  simpa using h
theorem wf0 (q : IntKind) : (Lit.int q 0).wf = true := by cases q <;> decide
theorem NM.look_run (h : NM e q w b L) {t : TypeId} (ht : Try.prog.underlying t = some (.map 36 e)) (he : Try.prog.underlying e = some (.int q)) (hz : (zeroValue e).run Try.prog w = .ok (.int q 0) w) {n : Nd} (hn : n.ok) :
    (Instr.lookup t (.map (some b)) n.val true).run Try.prog w = .ok (.tuple #[.int q ((look L n).getD 0), .bool (look L n).isSome]) w := by
  obtain ⟨D, h1, h2⟩ := h
  suffices hs : ∀ (x : Int) (y : Bool), x = (look L n).getD 0 → y = (look L n).isSome → (Instr.lookup t (.map (some b)) n.val true).run Try.prog w = .ok (.tuple #[.int q x, .bool y]) w → (Instr.lookup t (.map (some b)) n.val true).run Try.prog w = .ok (.tuple #[.int q ((look L n).getD 0), .bool (look L n).isSome]) w by
    obtain ⟨v, ps, hrun, hv⟩ := h1.look_ok KN ht hz (zd := .lit (.int q 0)) (zp := []) (plainElem_int he (wf0 q)) (nd_key hn)
    obtain ⟨c, rfl, hc, _⟩ := plainElem_int_inv he hv
    have hc1 := congrArg Prod.fst hc
    simp only at hc1
    refine hs c _ ?_ ?_ hrun
    · rcases hl : look L n with _ | r
      · have hno : Maps.has D n.key = false := by
          rcases hh : Maps.has D n.key with _ | _
          · rfl
          · exact absurd ((h2.dom n hn).1 hh) (look_none.1 hl)
        rw [atKey_of_not_has hno] at hc1
        exact (dlit_inj hc1).symm
      · rw [h2.val _ (look_mem hl)] at hc1
        exact (dlit_inj hc1).symm
    · rcases hl : look L n with _ | r
      · rcases hh : Maps.has D n.key with _ | _
        · rfl
        · exact absurd ((h2.dom n hn).1 hh) (look_none.1 hl)
      · exact (h2.dom n hn).2 (mem_keys.2 ⟨r, look_mem hl⟩)
  rintro x y rfl rfl h
  exact h
theorem Own.mapLook (m x : Operand) (t : TypeId) (ho : o.op = Op.lookup t m x true) (ht : Try.prog.underlying t = some (.map 36 e)) (he : Try.prog.underlying e = some (.int q)) (hz : (zeroValue e).run Try.prog w = .ok (.int q 0) w)
    (hm : a.eval m = .map (some b)) (h : NM e q w b L) (n : Nd) (hn : n.ok) (hx : a.eval x = n.val) (hK : K (a.put o.dst (.tuple #[.int q ((look L n).getD 0), .bool (look L n).isSome])) w) : o.wp Try.prog a w K Q := by
  have hrun := h.look_run ht he hz hn
  unfold Oper.wp
  simp [execOp, ho, hm, hx, hrun, Result.andThen]
  exact hK
theorem Own.nmPut (m x v : Operand) (t : TypeId) (ho : o.op = Op.mapUpdate t m x v) (ht : Try.prog.underlying t = some (.map 36 e)) (he : Try.prog.underlying e = some (.int q))
    (hm : a.eval m = .map (some b)) (h : NM e q w b L) (hlen : L.length < maxLen) (n : Nd) (hn : n.ok) (hx : a.eval x = n.val) (r : Int) (hr : (Lit.int q r).wf = true) (hv : a.eval v = .int q r) (hnew : n ∉ keys L)
    (hK : ∀ w', NM e q w' b (L ++ [(n, r)]) → Frm (fun x => x = b) w w' → K (a.put o.dst undef) w') : o.wp Try.prog a w K Q := by
  obtain ⟨D, h1, h2, h3, h4⟩ := h.tidy
  obtain ⟨w', hrun, r1, r2⟩ := h1.store KN ht hlen (nd_key hn) (plainElem_int (H := Unit) he hr)
  unfold Oper.wp
  simp [execOp, ho, hm, hx, hv, hrun, Result.andThen]
  exact hK _ ⟨_, by rw [List.length_append]; exact r1, h2.put h3 h4 hn hr hnew⟩ ((Frm.refl _ w).grown r2.grown (fun g hg => .inl (Option.some.inj hg).symm))
theorem Own.nmSet (m x v : Operand) (t : TypeId) (ho : o.op = Op.mapUpdate t m x v) (ht : Try.prog.underlying t = some (.map 36 e)) (he : Try.prog.underlying e = some (.int q))
    (hm : a.eval m = .map (some b)) (h : NM e q w b L) (hlen : L.length < maxLen) (n : Nd) (hn : n.ok) (hx : a.eval x = n.val) (r : Int) (hr : (Lit.int q r).wf = true) (hv : a.eval v = .int q r) (hold : n ∈ keys L)
    (hK : ∀ w', NM e q w' b (L.map fun p => if p.1 = n then (n, r) else p) → Frm (fun x => x = b) w w' → K (a.put o.dst undef) w') : o.wp Try.prog a w K Q := by
  obtain ⟨D, h1, h2, h3, h4⟩ := h.tidy
  obtain ⟨w', hrun, r1, r2⟩ := h1.store KN ht hlen (nd_key hn) (plainElem_int (H := Unit) he hr)
  unfold Oper.wp
  simp [execOp, ho, hm, hx, hv, hrun, Result.andThen]
  have h5 := h2.set h3 h4 hn hr hold rfl
  refine hK _ ⟨_, ?_, h5⟩ ((Frm.refl _ w).grown r2.grown (fun g hg => .inl (Option.some.inj hg).symm))
  rw [← h5.size]
  exact ownsMap_tight r1
theorem Own.nmDel (m x : Operand) (t : TypeId) (ho : o.op = Op.call { callee := Callee.builtin Builtin.delete, args := #[m, x], argTypes := #[t, 36] }) (ht : Try.prog.underlying t = some (.map 36 e))
    (hm : a.eval m = .map (some b)) (h : NM e q w b L) (n : Nd) (hn : n.ok) (hx : a.eval x = n.val) (hold : n ∈ keys L)
    (hK : ∀ w', NM e q w' b (without n L) → Frm (fun x => x = b) w w' → K (a.put o.dst (.tuple #[])) w') : o.wp Try.prog a w K Q := by
  obtain ⟨D, h1, h2, h3, h4⟩ := h.tidy
  obtain ⟨w', hrun, r1, r2⟩ := h1.drop KN ht (nd_key hn) o.type
  unfold Oper.wp
  simp [execOp, ho, resolve, invoke, builtin, hm, hx, hrun, Result.andThen]
  have h5 := h2.del h3 hn hold
  refine hK _ ⟨_, ?_, h5⟩ ((Frm.refl _ w).grown r2.grown (fun g hg => .inl (Option.some.inj hg).symm))
  rw [← h5.size]
  exact ownsMap_tight r1
theorem Own.nmLen (m : Operand) (t : TypeId) (ho : o.op = Op.call { callee := Callee.builtin Builtin.len, args := #[m], argTypes := #[t] }) (ht : Try.prog.underlying t = some (.map 36 e))
    (hm : a.eval m = .map (some b)) (h : NM e q w b L) (hK : K (a.put o.dst (.int .i64 L.length)) w) : o.wp Try.prog a w K Q := by
  obtain ⟨D, h1, h2, h3, h4⟩ := h.tidy
  unfold Oper.wp
  simp [execOp, ho, resolve, invoke, builtin, hm, h1.len ht o.type, Result.andThen]
  rw [h2.size]
  exact hK
end
end Go.Proofs.Ytkelbbalffijbaa


/- The unique table: Find, Count. -/
namespace Go.Proofs.Ytkelbbalffijbaa
open Go.RowKit Go.Tk Go.Maps

theorem ofv_look (L : List Ent) (n : Nd) {v : Nat} (h : n.v = v) : look (ofv L v) n = look L n := by
  unfold look ofv
  rw [Maps.find_filter_keep]
  intro p hp
  simp at hp ⊢
  rw [hp, h]
theorem look_out {w : World} {U : UTab} {vars : Nat} {L : List Ent} (h : UT w U vars L) {n : Nd} (hn : ¬ (0 ≤ n.v ∧ n.v < vars)) : look L n = none :=
  look_none.2 fun hk => by
    obtain ⟨r, hr⟩ := mem_keys.1 hk
    exact hn (h.vs _ hr)
set_option maxRecDepth 100000 in
set_option maxHeartbeats 4000000 in
theorem uqfind_any (U : UTab) (vars : Nat) (L : List Ent) (n : Nd) (hn : n.ok) (w : World) (h : UT w U vars L) :
    Calls Try.prog 12 #[.pointer (some ⟨U.T, 0, none⟩), n.val] w fun e w' => e = .returned (.tuple #[.int .u32 ((look L n).getD 0), .bool (look L n).isSome]) ∧ Same w w' := by
  obtain ⟨w1, hw1⟩ : ∃ z, z = w.alloc (.cells #[.int .i64 n.v, .int .u32 n.lo, .int .u32 n.hi] 36) := ⟨_, rfl⟩
  have hs1 : Same w w1 := by rw [hw1]; exact (Frm.refl _ _).alloc _
  have hX : Blk w1 w.heap.size 36 #[.int .i64 n.v, .int .u32 n.lo, .int .u32 n.hi] := by rw [hw1]; exact Blk.new _ _ _
  have h1 := h.same hs1
  obtain ⟨X, hXX⟩ : ∃ z, z = w.heap.size := ⟨_, rfl⟩
  rw [← hXX] at hX
  have cX0 : w1.cell? ⟨X, 0, none⟩ = some (.int .i64 n.v) := hX.cell 0
  have cX1 : w1.cell? ⟨X, 1, none⟩ = some (.int .u32 n.lo) := hX.cell 1
  have cX2 : w1.cell? ⟨X, 2, none⟩ = some (.int .u32 n.hi) := hX.cell 2
  have lX := hX.lt
  have HS1 := Lib.hid hs1
  have H1 := Lib.hid h1
  have HC := Lib.hid (uqcheck_any U vars L n.v w1 h1)
  have HL : ∀ (v : Nat), n.v = v → look (ofv L v) n = look L n := fun v hv => ofv_look L n hv
  have HO := Lib.hid (fun hno => look_out h (n := n) hno)
  have HL' := Lib.hid HL
  clear hs1 h1 h HL hX
  obtain ⟨nv, nlo, nhi⟩ := n
  simp only [Nd.val] at *
  go_enter Try.func12, Try.ntmps12
  go_wp2_with (fail)
  rw [← hXX, ← hw1]
  refine HC.out.mono ?_
  rintro e w2 ⟨rfl, rfl⟩
  by_cases hv : 0 ≤ nv ∧ nv < vars
  · obtain ⟨v, rfl⟩ := Int.eq_ofNat_of_zero_le hv.1
    have hvv : v < vars := by omega
    have hE : vErr vars v = 0 := if_pos hv
    rw [hE]
    have ct : w2.cell? ⟨U.T, 0, none⟩ = some (.slice (some ⟨U.sb, 0, none⟩) vars vars) := H1.out.t.cell 0
    have lt := H1.out.t.lt
    have cs := H1.out.s v hvv
    have ls := H1.out.sl
    have hk0 : (0 : Int) ≤ v := hv.1
    have hk1 : (v : Int) < vars := hv.2
    have hm := Lib.hid (H1.out.m v hvv)
    have hl := Lib.hid (HL'.out v rfl)
    clear hv HO HL' hw1 hXX hE HC
    go_wp2
    refine wp_phS (fun _ => False) [([0, 1, 2, 3, 4, 5, 6, 7, 8], 9), ([10, 11, 12, 13], 14)] (by kernel_rfl) (by kernel_rfl) ?_
    simp only [wpPh, pick, List.map_cons, List.map_nil, List.getD_cons_zero, List.getD_cons_succ]
    have nS : ∀ b : Nat, ¬ (fun _ : Nat => False) b := fun _ h => h
    repeat (any_goals (first | go_big_quiet_step (fail) | quiet_step (fail)))
    refine wpQuiet_nil ?_
    refine effStep_plain rfl fun K hK => ?_
    obtain ⟨wd, hwd⟩ : ∃ z, z = w2.drew := ⟨_, rfl⟩
    have hsd : Same w2 wd := by rw [hwd]; exact (Frm.refl _ _).drew
    rw [← hwd]
    clear hwd
    refine Own.mapLook (.tmp 21) (.tmp 22) 64 rfl Try.underlying64 Try.underlying34 (Try.zeroValue34 _) rfl (hm.out.frm hsd id) ⟨v, nlo, nhi⟩ hn rfl ?_
    rw [hl.out]
    refine hK _ _ (Lat.mk_ hsd) ?_
    clear hK K
    repeat (any_goals (first | go_big_quiet_step (fail) | quiet_step (fail)))
    refine wpQuiet_nil ?_
    go_wp2
    go_ret2
    exact ⟨rfl, HS1.out.trans hsd (fun _ _ h => h)⟩
  · have hE : vErr vars nv = 2 := if_neg hv
    rw [hE]
    have hz := Lib.hid (HO.out hv)
    clear hw1 hXX hE HC HO HL'
    go_wp2
    go_ret2
    exact ⟨by rw [hz.out]; rfl, HS1.out⟩
set_option maxRecDepth 100000 in
theorem uqfind_nil (n : Nd) (w : World) : Calls Try.prog 12 #[.pointer none, n.val] w fun e w' => e = .returned (.tuple #[.int .u32 0, .bool false]) ∧ Same w w' := by
  obtain ⟨w1, hw1⟩ : ∃ z, z = w.alloc (.cells #[.int .i64 n.v, .int .u32 n.lo, .int .u32 n.hi] 36) := ⟨_, rfl⟩
  have hs1 : Same w w1 := by rw [hw1]; exact (Frm.refl _ _).alloc _
  have hX : Blk w1 w.heap.size 36 #[.int .i64 n.v, .int .u32 n.lo, .int .u32 n.hi] := by rw [hw1]; exact Blk.new _ _ _
  obtain ⟨X, hXX⟩ : ∃ z, z = w.heap.size := ⟨_, rfl⟩
  rw [← hXX] at hX
  have cX0 : w1.cell? ⟨X, 0, none⟩ = some (.int .i64 n.v) := hX.cell 0
  have HS1 := Lib.hid hs1
  have HC := Lib.hid (uqcheck_nil n.v w1)
  clear hs1 hX
  obtain ⟨nv, nlo, nhi⟩ := n
  simp only [Nd.val] at *
  go_enter Try.func12, Try.ntmps12
  go_wp2_with (fail)
  rw [← hXX, ← hw1]
  refine HC.out.mono ?_
  rintro e w2 ⟨rfl, rfl⟩
  clear hw1 hXX HC
  go_wp2
  go_ret2
  exact ⟨rfl, HS1.out⟩
set_option maxRecDepth 100000 in
theorem uqcount_any (U : UTab) (vars : Nat) (L : List Ent) (v : Int) (w : World) (h : UT w U vars L) :
    Calls Try.prog 13 #[.pointer (some ⟨U.T, 0, none⟩), .int .i64 v] w fun e w' => e = .returned (.tuple #[.int .i64 (if 0 ≤ v ∧ v < vars then (ofv L v.toNat).length else 0 : Nat), .int .i64 (vErr vars v)]) ∧ w' = w := by
  have HC := Lib.hid (uqcheck_any U vars L v w h)
  have ct : w.cell? ⟨U.T, 0, none⟩ = some (.slice (some ⟨U.sb, 0, none⟩) vars vars) := h.t.cell 0
  have lt := h.t.lt
  by_cases hv : 0 ≤ v ∧ v < vars
  · obtain ⟨u, rfl⟩ := Int.eq_ofNat_of_zero_le hv.1
    have hvv : u < vars := by omega
    have hE : vErr vars u = 0 := if_pos hv
    rw [if_pos hv, Int.toNat_natCast]
    have cs := h.s u hvv
    have ls := h.sl
    have hk0 : (0 : Int) ≤ u := hv.1
    have hk1 : (u : Int) < vars := hv.2
    obtain ⟨N, hN⟩ : ∃ z, z = (ofv L u).length := ⟨_, rfl⟩
    have hm := Lib.hid (h.m u hvv)
    rw [hE] at HC ⊢
    rw [← hN]
    have HN := Lib.hid hN
    clear hv h hE hN
    go_enter Try.func13, Try.ntmps13
    go_wp2_with (fail)
    refine HC.out.mono ?_
    rintro e w2 ⟨rfl, rfl⟩
    clear HC
    go_upto_region 4 with fail
    refine wp_read 7 ?_
    simp only [List.take_succ_cons, List.take_zero, List.drop_succ_cons, List.drop_zero]
    repeat (any_goals (first | go_big_quiet_step (fail) | quiet_step (fail)))
    refine wpQuiet_nil ?_
    refine wpList_plain rfl fun K hK => ?_
    refine Own.nmLen (.tmp 19) 64 rfl Try.underlying64 rfl hm.out ?_
    rw [← HN.out]
    refine hK _ _ ?_
    clear hK K
    go_wp2
    go_ret2
    exact ⟨rfl, rfl⟩
  · have hE : vErr vars v = 2 := if_neg hv
    rw [if_neg hv, hE]
    rw [hE] at HC
    clear h hE
    go_enter Try.func13, Try.ntmps13
    go_wp2_with (fail)
    refine HC.out.mono ?_
    rintro e w2 ⟨rfl, rfl⟩
    clear HC
    go_wp2
    go_ret2
    exact ⟨rfl, rfl⟩
set_option maxRecDepth 100000 in
theorem uqcount_nil (v : Int) (w : World) : Calls Try.prog 13 #[.pointer none, .int .i64 v] w fun e w' => e = .returned (.tuple #[.int .i64 0, .int .i64 10]) ∧ w' = w := by
  have HC := Lib.hid (uqcheck_nil v w)
  go_enter Try.func13, Try.ntmps13
  go_wp2_with (fail)
  refine HC.out.mono ?_
  rintro e w2 ⟨rfl, rfl⟩
  clear HC
  go_wp2
  go_ret2
  exact ⟨rfl, rfl⟩
end Go.Proofs.Ytkelbbalffijbaa


/- The unique table: Add, Remove. -/
namespace Go.Proofs.Ytkelbbalffijbaa
open Go.RowKit Go.Tk Go.Maps

theorem ofv_snoc_same {L : List Ent} {n : Nd} {r : Int} {v : Nat} (h : n.v = v) : ofv (L ++ [(n, r)]) v = ofv L v ++ [(n, r)] := by
  unfold ofv; rw [List.filter_append]; simp [h]
theorem ofv_snoc_other {L : List Ent} {n : Nd} {r : Int} {v u : Nat} (h : n.v = v) (hu : u ≠ v) : ofv (L ++ [(n, r)]) u = ofv L u := by
  unfold ofv; rw [List.filter_append]; simp [h] <;> omega
theorem ofv_without_same {L : List Ent} {n : Nd} {v : Nat} : ofv (without n L) v = without n (ofv L v) := by
  unfold ofv without; rw [List.filter_filter, List.filter_filter]
  refine List.filter_congr fun p _ => ?_
  exact Bool.and_comm _ _
theorem ofv_without_other {L : List Ent} {n : Nd} {v u : Nat} (h : n.v = v) (hu : u ≠ v) : ofv (without n L) u = ofv L u := by
  unfold ofv without; rw [List.filter_filter]
  refine List.filter_congr fun p _ => ?_
  by_cases e : p.1 = n
  · subst e; simp [h] <;> omega
  · simp [e]
theorem ofv_keys {L : List Ent} {n : Nd} {v : Nat} (h : n.v = v) : n ∈ keys (ofv L v) ↔ n ∈ keys L := by
  rw [mem_keys, mem_keys]
  constructor
  · rintro ⟨r, hr⟩; exact ⟨r, (List.mem_filter.1 hr).1⟩
  · rintro ⟨r, hr⟩; exact ⟨r, List.mem_filter.2 ⟨hr, by simp [h]⟩⟩
def addE (vars : Nat) (L : List Ent) (n : Nd) : Int := if 0 ≤ n.v ∧ n.v < vars then (if (look L n).isSome then 11 else 0) else 2
def addL (vars : Nat) (L : List Ent) (n : Nd) (r : Int) : List Ent := if 0 ≤ n.v ∧ n.v < vars then (if (look L n).isSome then L else L ++ [(n, r)]) else L
def remE (vars : Nat) (L : List Ent) (n : Nd) : Int := if 0 ≤ n.v ∧ n.v < vars then (if (look L n).isSome then 0 else 10) else 2
def remL (vars : Nat) (L : List Ent) (n : Nd) : List Ent := if 0 ≤ n.v ∧ n.v < vars then (if (look L n).isSome then without n L else L) else L
theorem UT.add {w w' : World} {U : UTab} {vars : Nat} {L : List Ent} {n : Nd} {r : Int} {v : Nat} (h : UT w U vars L) (hv : v < vars) (hn : n.v = v) (hno : look L n = none) (hm : NM 34 .u32 w' (U.mb v) (ofv L v ++ [(n, r)])) (hf : Frm (fun x => x = U.mb v) w w') : UT w' U vars (L ++ [(n, r)]) :=
  h.turn hv hf (by rw [ofv_snoc_same hn]; exact hm) (fun u _ hne => ofv_snoc_other hn hne) (fun p hp => by
    rcases List.mem_append.1 hp with hp | hp
    · exact h.vs p hp
    · obtain rfl := List.mem_singleton.1 hp
      simp only [hn]; omega) (by
    have : keys (L ++ [(n, r)]) = keys L ++ [n] := by simp [keys]
    rw [this, List.nodup_append]
    exact ⟨h.nd, by simp, fun a ha b hb e => look_none.1 hno (by simp at hb; rw [← hb, ← e]; exact ha)⟩)
theorem UT.rem {w w' : World} {U : UTab} {vars : Nat} {L : List Ent} {n : Nd} {v : Nat} (h : UT w U vars L) (hv : v < vars) (hn : n.v = v) (hm : NM 34 .u32 w' (U.mb v) (without n (ofv L v))) (hf : Frm (fun x => x = U.mb v) w w') : UT w' U vars (without n L) :=
  h.turn hv hf (by rw [ofv_without_same]; exact hm) (fun u _ hne => ofv_without_other hn hne) (fun p hp => h.vs p (List.mem_filter.1 hp).1) (by rw [keys_without]; exact nodup_filter _ h.nd)
set_option maxRecDepth 100000 in
set_option maxHeartbeats 4000000 in
theorem uqadd_any (U : UTab) (vars : Nat) (L : List Ent) (n : Nd) (hn : n.ok) (r : Int) (hr : (Lit.int .u32 r).wf = true) (hlen : L.length < maxLen) (w : World) (h : UT w U vars L) :
    Calls Try.prog 15 #[.pointer (some ⟨U.T, 0, none⟩), n.val, .int .u32 r] w fun e w' => e = .returned (.int .i64 (addE vars L n)) ∧ UT w' U vars (addL vars L n r) ∧ Frm (UB U vars) w w' := by
  obtain ⟨w1, hw1⟩ : ∃ z, z = w.alloc (.cells #[.int .i64 n.v, .int .u32 n.lo, .int .u32 n.hi] 36) := ⟨_, rfl⟩
  have hs1 : Same w w1 := by rw [hw1]; exact (Frm.refl _ _).alloc _
  have hX : Blk w1 w.heap.size 36 #[.int .i64 n.v, .int .u32 n.lo, .int .u32 n.hi] := by rw [hw1]; exact Blk.new _ _ _
  have h1 := h.same hs1
  obtain ⟨X, hXX⟩ : ∃ z, z = w.heap.size := ⟨_, rfl⟩
  rw [← hXX] at hX
  have cX0 : w1.cell? ⟨X, 0, none⟩ = some (.int .i64 n.v) := hX.cell 0
  have cX1 : w1.cell? ⟨X, 1, none⟩ = some (.int .u32 n.lo) := hX.cell 1
  have cX2 : w1.cell? ⟨X, 2, none⟩ = some (.int .u32 n.hi) := hX.cell 2
  have lX := hX.lt
  have HS1 := Lib.hid hs1
  have H1 := Lib.hid h1
  have HC := Lib.hid (uqcheck_any U vars L n.v w1 h1)
  have HLK := Lib.hid (fun (v : Nat) (hv : n.v = v) => ofv_look L n hv)
  have HKY := Lib.hid (fun (v : Nat) (hv : n.v = v) => ofv_keys (L := L) hv)
  have HLE := Lib.hid (fun (v : Nat) => Nat.lt_of_le_of_lt (List.length_filter_le (fun p : Ent => decide (p.1.v = (v : Int))) L) hlen)
  have HR := Lib.hid hr
  have HN := Lib.hid hn
  have HFIN := Lib.hid (show ∀ (v : Nat) (w2 : World), v < vars → n.v = v → look L n = none → NM 34 .u32 w2 (U.mb v) (ofv L v ++ [(n, r)]) → Frm (fun x => x = U.mb v) w1 w2 → UT w2 U vars (L ++ [(n, r)]) ∧ Frm (UB U vars) w w2 from
    fun v w2 hv hnv hno hm hf => ⟨h1.add hv hnv hno hm hf, ((Frm.refl (UB U vars) w).trans hs1 (fun _ _ h => h.elim)).trans hf (fun i _ (hi : i = U.mb v) => ⟨v, hv, hi⟩)⟩)
  clear hs1 h hX h1 hlen hr hn
  obtain ⟨nv, nlo, nhi⟩ := n
  simp only [Nd.val] at *
  by_cases hv : 0 ≤ nv ∧ nv < vars
  · obtain ⟨v, rfl⟩ := Int.eq_ofNat_of_zero_le hv.1
    have hvv : v < vars := by omega
    have hE : vErr vars v = 0 := if_pos hv
    rw [hE] at HC
    have ct : w1.cell? ⟨U.T, 0, none⟩ = some (.slice (some ⟨U.sb, 0, none⟩) vars vars) := H1.out.t.cell 0
    have lt := H1.out.t.lt
    have cs := H1.out.s v hvv
    have ls := H1.out.sl
    have hk0 : (0 : Int) ≤ v := hv.1
    have hk1 : (v : Int) < vars := hv.2
    have hm := Lib.hid (H1.out.m v hvv)
    have hl := Lib.hid (HLK.out v rfl)
    have hky := Lib.hid (HKY.out v rfl)
    have lm := H1.out.m v hvv |>.lt
    unfold addE addL
    rw [if_pos hv, if_pos hv]
    clear hv HLK HKY hE
    rcases hlk : look L ⟨v, nlo, nhi⟩ with _ | r0
    · rw [hlk] at hl
      have HNO := Lib.hid hlk
      clear hlk
      go_enter Try.func15, Try.ntmps15
      go_wp2_with (fail)
      rw [← hXX, ← hw1]
      clear hXX hw1
      refine HC.out.mono ?_
      rintro e w2 ⟨rfl, rfl⟩
      clear HC
      go_wp2
      refine wp_phS (fun _ => False) [([0, 1, 2, 3, 4, 5, 6, 7, 8], 9), ([10, 11, 12, 13], 14)] (by kernel_rfl) (by kernel_rfl) ?_
      simp only [wpPh, pick, List.map_cons, List.map_nil, List.getD_cons_zero, List.getD_cons_succ]
      have nS : ∀ b : Nat, ¬ (fun _ : Nat => False) b := fun _ h => h
      repeat (any_goals (first | go_big_quiet_step (fail) | quiet_step (fail)))
      refine wpQuiet_nil ?_
      refine effStep_plain rfl fun K hK => ?_
      obtain ⟨wd, hwd⟩ : ∃ z, z = w2.drew := ⟨_, rfl⟩
      have hsd : Same w2 wd := by rw [hwd]; exact (Frm.refl _ _).drew
      rw [← hwd]
      clear hwd
      refine Own.mapLook (.tmp 25) (.tmp 26) 64 rfl Try.underlying64 Try.underlying34 (Try.zeroValue34 _) rfl (hm.out.frm hsd id) ⟨v, nlo, nhi⟩ HN.out rfl ?_
      rw [hl.out]
      refine hK _ _ (Lat.mk_ hsd) ?_
      clear hK K
      repeat (any_goals (first | go_big_quiet_step (fail) | quiet_step (fail)))
      refine wpQuiet_nil ?_
      have ct := (hsd.cell (p := ⟨U.T, 0, none⟩) lt id).trans ct
      have cs := (hsd.cell (p := ⟨U.sb, v, none⟩) ls id).trans cs
      have cX0 := (hsd.cell (p := ⟨X, 0, none⟩) lX id).trans cX0
      have cX1 := (hsd.cell (p := ⟨X, 1, none⟩) lX id).trans cX1
      have cX2 := (hsd.cell (p := ⟨X, 2, none⟩) lX id).trans cX2
      have lt := Nat.lt_of_lt_of_le lt hsd.size
      have ls := Nat.lt_of_lt_of_le ls hsd.size
      have lX := Nat.lt_of_lt_of_le lX hsd.size
      have HSD := Lib.hid hsd
      clear hsd
      go_wp2
      refine wp_phS (fun _ => False) [([0, 1, 2, 3, 4, 5, 6, 7, 8, 9], 10)] (by kernel_rfl) (by kernel_rfl) ?_
      simp only [wpPh, pick, List.map_cons, List.map_nil, List.getD_cons_zero, List.getD_cons_succ]
      repeat (any_goals (first | go_big_quiet_step (fail) | quiet_step (fail)))
      refine wpQuiet_nil ?_
      obtain ⟨we, hwe⟩ : ∃ z, z = wd.drew := ⟨_, rfl⟩
      have hse : Same wd we := by rw [hwe]; exact (Frm.refl _ _).drew
      rw [← hwe]
      clear hwe
      refine wpList_plain rfl fun K hK => ?_
      refine Own.nmPut (.tmp 38) (.tmp 39) (.tmp 40) 64 rfl Try.underlying64 Try.underlying34 rfl ((hm.out.frm HSD.out id).frm hse id) (HLE.out v) ⟨v, nlo, nhi⟩ HN.out rfl r HR.out rfl (by rw [hky.out]; exact look_none.1 HNO.out) ?_
      intro w3 hnm hf
      refine hK _ _ ?_
      have HF := Lib.hid (HFIN.out v w3 hvv rfl HNO.out hnm (((Frm.refl _ w2).trans (HSD.out.trans hse (fun _ _ h => h)) (fun _ _ h => h.elim)).trans hf (fun _ _ h => h)))
      clear hK K hnm hf
      go_wp2
      go_ret
      exact ⟨rfl, HF.out.1, HF.out.2⟩
    · rw [hlk] at hl
      have HNO := Lib.hid hlk
      clear hlk
      go_enter Try.func15, Try.ntmps15
      go_wp2_with (fail)
      rw [← hXX, ← hw1]
      clear hXX hw1
      refine HC.out.mono ?_
      rintro e w2 ⟨rfl, rfl⟩
      clear HC
      go_wp2
      refine wp_phS (fun _ => False) [([0, 1, 2, 3, 4, 5, 6, 7, 8], 9), ([10, 11, 12, 13], 14)] (by kernel_rfl) (by kernel_rfl) ?_
      simp only [wpPh, pick, List.map_cons, List.map_nil, List.getD_cons_zero, List.getD_cons_succ]
      have nS : ∀ b : Nat, ¬ (fun _ : Nat => False) b := fun _ h => h
      repeat (any_goals (first | go_big_quiet_step (fail) | quiet_step (fail)))
      refine wpQuiet_nil ?_
      refine effStep_plain rfl fun K hK => ?_
      obtain ⟨wd, hwd⟩ : ∃ z, z = w2.drew := ⟨_, rfl⟩
      have hsd : Same w2 wd := by rw [hwd]; exact (Frm.refl _ _).drew
      rw [← hwd]
      clear hwd
      refine Own.mapLook (.tmp 25) (.tmp 26) 64 rfl Try.underlying64 Try.underlying34 (Try.zeroValue34 _) rfl (hm.out.frm hsd id) ⟨v, nlo, nhi⟩ HN.out rfl ?_
      rw [hl.out]
      refine hK _ _ (Lat.mk_ hsd) ?_
      clear hK K
      repeat (any_goals (first | go_big_quiet_step (fail) | quiet_step (fail)))
      refine wpQuiet_nil ?_
      have hfw := Lib.hid (((Frm.refl (UB U vars) w).trans HS1.out (fun _ _ h => h.elim)).trans hsd (fun _ _ h => h.elim))
      have HU := Lib.hid (H1.out.same hsd)
      clear hsd
      go_wp2
      go_ret
      exact ⟨rfl, HU.out, hfw.out⟩
  · have hE : vErr vars nv = 2 := if_neg hv
    rw [hE] at HC
    unfold addE addL
    rw [if_neg hv, if_neg hv]
    have hfw := Lib.hid ((Frm.refl (UB U vars) w).trans HS1.out (fun _ _ h => h.elim))
    clear hE hv
    go_enter Try.func15, Try.ntmps15
    go_wp2_with (fail)
    rw [← hXX, ← hw1]
    clear hXX hw1
    refine HC.out.mono ?_
    rintro e w2 ⟨rfl, rfl⟩
    clear HC
    go_wp2
    go_ret
    exact ⟨rfl, H1.out, hfw.out⟩
set_option maxRecDepth 100000 in
set_option maxHeartbeats 4000000 in
theorem uqrem_any (U : UTab) (vars : Nat) (L : List Ent) (n : Nd) (hn : n.ok) (w : World) (h : UT w U vars L) :
    Calls Try.prog 16 #[.pointer (some ⟨U.T, 0, none⟩), n.val] w fun e w' => e = .returned (.int .i64 (remE vars L n)) ∧ UT w' U vars (remL vars L n) ∧ Frm (UB U vars) w w' := by
  obtain ⟨w1, hw1⟩ : ∃ z, z = w.alloc (.cells #[.int .i64 n.v, .int .u32 n.lo, .int .u32 n.hi] 36) := ⟨_, rfl⟩
  have hs1 : Same w w1 := by rw [hw1]; exact (Frm.refl _ _).alloc _
  have hX : Blk w1 w.heap.size 36 #[.int .i64 n.v, .int .u32 n.lo, .int .u32 n.hi] := by rw [hw1]; exact Blk.new _ _ _
  have h1 := h.same hs1
  obtain ⟨X, hXX⟩ : ∃ z, z = w.heap.size := ⟨_, rfl⟩
  rw [← hXX] at hX
  have cX0 : w1.cell? ⟨X, 0, none⟩ = some (.int .i64 n.v) := hX.cell 0
  have cX1 : w1.cell? ⟨X, 1, none⟩ = some (.int .u32 n.lo) := hX.cell 1
  have cX2 : w1.cell? ⟨X, 2, none⟩ = some (.int .u32 n.hi) := hX.cell 2
  have lX := hX.lt
  have HS1 := Lib.hid hs1
  have H1 := Lib.hid h1
  have HC := Lib.hid (uqcheck_any U vars L n.v w1 h1)
  have HLK := Lib.hid (fun (v : Nat) (hv : n.v = v) => ofv_look L n hv)
  have HKY := Lib.hid (fun (v : Nat) (hv : n.v = v) => ofv_keys (L := L) hv)
  have HN := Lib.hid hn
  have HFIN := Lib.hid (show ∀ (v : Nat) (w2 : World), v < vars → n.v = v → NM 34 .u32 w2 (U.mb v) (without n (ofv L v)) → Frm (fun x => x = U.mb v) w1 w2 → UT w2 U vars (without n L) ∧ Frm (UB U vars) w w2 from
    fun v w2 hv hnv hm hf => ⟨h1.rem hv hnv hm hf, ((Frm.refl (UB U vars) w).trans hs1 (fun _ _ h => h.elim)).trans hf (fun i _ (hi : i = U.mb v) => ⟨v, hv, hi⟩)⟩)
  clear hs1 h hX h1 hn
  obtain ⟨nv, nlo, nhi⟩ := n
  simp only [Nd.val] at *
  by_cases hv : 0 ≤ nv ∧ nv < vars
  · obtain ⟨v, rfl⟩ := Int.eq_ofNat_of_zero_le hv.1
    have hvv : v < vars := by omega
    have hE : vErr vars v = 0 := if_pos hv
    rw [hE] at HC
    have ct : w1.cell? ⟨U.T, 0, none⟩ = some (.slice (some ⟨U.sb, 0, none⟩) vars vars) := H1.out.t.cell 0
    have lt := H1.out.t.lt
    have cs := H1.out.s v hvv
    have ls := H1.out.sl
    have hk0 : (0 : Int) ≤ v := hv.1
    have hk1 : (v : Int) < vars := hv.2
    have hm := Lib.hid (H1.out.m v hvv)
    have hl := Lib.hid (HLK.out v rfl)
    have hky := Lib.hid (HKY.out v rfl)
    have lm := H1.out.m v hvv |>.lt
    unfold remE remL
    rw [if_pos hv, if_pos hv]
    clear hv HLK HKY hE
    rcases hlk : look L ⟨v, nlo, nhi⟩ with _ | r0
    · rw [hlk] at hl
      have HNO := Lib.hid hlk
      clear hlk
      go_enter Try.func16, Try.ntmps16
      go_wp2_with (fail)
      rw [← hXX, ← hw1]
      clear hXX hw1
      refine HC.out.mono ?_
      rintro e w2 ⟨rfl, rfl⟩
      clear HC
      go_wp2
      refine wp_phS (fun _ => False) [([0, 1, 2, 3, 4, 5, 6, 7, 8], 9), ([10, 11, 12, 13], 14)] (by kernel_rfl) (by kernel_rfl) ?_
      simp only [wpPh, pick, List.map_cons, List.map_nil, List.getD_cons_zero, List.getD_cons_succ]
      have nS : ∀ b : Nat, ¬ (fun _ : Nat => False) b := fun _ h => h
      repeat (any_goals (first | go_big_quiet_step (fail) | quiet_step (fail)))
      refine wpQuiet_nil ?_
      refine effStep_plain rfl fun K hK => ?_
      obtain ⟨wd, hwd⟩ : ∃ z, z = w2.drew := ⟨_, rfl⟩
      have hsd : Same w2 wd := by rw [hwd]; exact (Frm.refl _ _).drew
      rw [← hwd]
      clear hwd
      refine Own.mapLook (.tmp 23) (.tmp 24) 64 rfl Try.underlying64 Try.underlying34 (Try.zeroValue34 _) rfl (hm.out.frm hsd id) ⟨v, nlo, nhi⟩ HN.out rfl ?_
      rw [hl.out]
      refine hK _ _ (Lat.mk_ hsd) ?_
      clear hK K
      repeat (any_goals (first | go_big_quiet_step (fail) | quiet_step (fail)))
      refine wpQuiet_nil ?_
      have hfw := Lib.hid (((Frm.refl (UB U vars) w).trans HS1.out (fun _ _ h => h.elim)).trans hsd (fun _ _ h => h.elim))
      have HU := Lib.hid (H1.out.same hsd)
      clear hsd
      go_wp2
      go_ret
      exact ⟨rfl, HU.out, hfw.out⟩
    · rw [hlk] at hl
      have HNO := Lib.hid hlk
      clear hlk
      go_enter Try.func16, Try.ntmps16
      go_wp2_with (fail)
      rw [← hXX, ← hw1]
      clear hXX hw1
      refine HC.out.mono ?_
      rintro e w2 ⟨rfl, rfl⟩
      clear HC
      go_wp2
      refine wp_phS (fun _ => False) [([0, 1, 2, 3, 4, 5, 6, 7, 8], 9), ([10, 11, 12, 13], 14)] (by kernel_rfl) (by kernel_rfl) ?_
      simp only [wpPh, pick, List.map_cons, List.map_nil, List.getD_cons_zero, List.getD_cons_succ]
      have nS : ∀ b : Nat, ¬ (fun _ : Nat => False) b := fun _ h => h
      repeat (any_goals (first | go_big_quiet_step (fail) | quiet_step (fail)))
      refine wpQuiet_nil ?_
      refine effStep_plain rfl fun K hK => ?_
      obtain ⟨wd, hwd⟩ : ∃ z, z = w2.drew := ⟨_, rfl⟩
      have hsd : Same w2 wd := by rw [hwd]; exact (Frm.refl _ _).drew
      rw [← hwd]
      clear hwd
      refine Own.mapLook (.tmp 23) (.tmp 24) 64 rfl Try.underlying64 Try.underlying34 (Try.zeroValue34 _) rfl (hm.out.frm hsd id) ⟨v, nlo, nhi⟩ HN.out rfl ?_
      rw [hl.out]
      refine hK _ _ (Lat.mk_ hsd) ?_
      clear hK K
      repeat (any_goals (first | go_big_quiet_step (fail) | quiet_step (fail)))
      refine wpQuiet_nil ?_
      have ct := (hsd.cell (p := ⟨U.T, 0, none⟩) lt id).trans ct
      have cs := (hsd.cell (p := ⟨U.sb, v, none⟩) ls id).trans cs
      have cX0 := (hsd.cell (p := ⟨X, 0, none⟩) lX id).trans cX0
      have cX1 := (hsd.cell (p := ⟨X, 1, none⟩) lX id).trans cX1
      have cX2 := (hsd.cell (p := ⟨X, 2, none⟩) lX id).trans cX2
      have lt := Nat.lt_of_lt_of_le lt hsd.size
      have ls := Nat.lt_of_lt_of_le ls hsd.size
      have lX := Nat.lt_of_lt_of_le lX hsd.size
      have HSD := Lib.hid hsd
      clear hsd
      go_wp2
      refine wp_phS (fun _ => False) [([0, 1, 2, 3, 4, 5, 6, 7, 8], 9)] (by kernel_rfl) (by kernel_rfl) ?_
      simp only [wpPh, pick, List.map_cons, List.map_nil, List.getD_cons_zero, List.getD_cons_succ]
      repeat (any_goals (first | go_big_quiet_step (fail) | quiet_step (fail)))
      refine wpQuiet_nil ?_
      obtain ⟨we, hwe⟩ : ∃ z, z = wd.drew := ⟨_, rfl⟩
      have hse : Same wd we := by rw [hwe]; exact (Frm.refl _ _).drew
      rw [← hwe]
      clear hwe
      refine wpList_plain rfl fun K hK => ?_
      refine Own.nmDel (.tmp 37) (.tmp 38) 64 rfl Try.underlying64 rfl ((hm.out.frm HSD.out id).frm hse id) ⟨v, nlo, nhi⟩ HN.out rfl (by rw [hky.out]; exact mem_keys.2 ⟨r0, look_mem HNO.out⟩) ?_
      intro w3 hnm hf
      refine hK _ _ ?_
      have HF := Lib.hid (HFIN.out v w3 hvv rfl hnm (((Frm.refl _ w2).trans (HSD.out.trans hse (fun _ _ h => h)) (fun _ _ h => h.elim)).trans hf (fun _ _ h => h)))
      clear hK K hnm hf
      go_wp2
      go_ret
      exact ⟨rfl, HF.out.1, HF.out.2⟩
  · have hE : vErr vars nv = 2 := if_neg hv
    rw [hE] at HC
    unfold remE remL
    rw [if_neg hv, if_neg hv]
    have hfw := Lib.hid ((Frm.refl (UB U vars) w).trans HS1.out (fun _ _ h => h.elim))
    clear hE hv
    go_enter Try.func16, Try.ntmps16
    go_wp2_with (fail)
    rw [← hXX, ← hw1]
    clear hXX hw1
    refine HC.out.mono ?_
    rintro e w2 ⟨rfl, rfl⟩
    clear HC
    go_wp2
    go_ret
    exact ⟨rfl, H1.out, hfw.out⟩
end Go.Proofs.Ytkelbbalffijbaa


/- The reference's table of nodes: DocAdd. -/
namespace Go.Tk
open Go.RowKit
theorem addr_add0 (sb j : Nat) : (⟨sb, 0, none⟩ : Addr).add j = ⟨sb, j, none⟩ := by unfold Addr.add; split <;> simp_all
theorem Own.src {w : World} {e : TypeId} {m : Nat} {α : Type} {f : α → List Value} {A : Option Addr} {N C : Nat} {xs : List α} (h : Own w e m f A N C xs) (hf : ∀ x, (f x).length = m) (hm : 0 < m) (hne : xs ≠ []) : ∃ ad, A = some ad ∧ ∀ j u, (xs.flatMap f)[j]? = some u → w.cell? (ad.add j) = some u := by
  have h0 : 0 < xs.length := List.length_pos_iff.2 hne
  obtain ⟨sb, rfl, hs⟩ := h.form (by rw [h.len]; exact h0)
  refine ⟨_, rfl, fun j u hj => ?_⟩
  have hmod : j % m < m := Nat.mod_lt _ hm
  have hk : j = j / m * m + j % m := by rw [Nat.mul_comm]; exact (Nat.div_add_mod j m).symm
  rw [hk, flat_get f m hf _ _ _ hmod] at hj
  cases hx : xs[j / m]? with
  | none => rw [hx] at hj; cases hj
  | some x =>
    rw [hx] at hj
    obtain ⟨sb', h1, _, h3⟩ := h.get hf hx
    cases h1
    have := h3 (j % m) hmod
    rw [← hk] at this
    rw [addr_add0, this]
    exact hj
end Go.Tk
namespace Go.Proofs.Ytkelbbalffijbaa
open Go.RowKit Go.Tk Go.Maps

theorem info_item : (Try.prog.info? 75).map (fun i => (i.zero, i.size, i.bytes)) = some (some (.agg #[.int .i64 0, .int .u32 0, .int .u32 0, .int .u32 0]), 4, 24) := by kernel_rfl
theorem ecells_one (p : Ent) : ∀ u ∈ ecells p, u.oneCell' = true := by
  intro u hu
  simp only [ecells, List.mem_cons, List.not_mem_nil, or_false] at hu
  rcases hu with rfl | rfl | rfl | rfl <;> rfl
set_option maxRecDepth 100000 in
set_option maxHeartbeats 4000000 in
theorem uradd_any (vars : Nat) (A : Option Addr) (C : Nat) (L : List Ent) (n : Nd) (r : Int) (w : World) (h : OE w A C L) (hb : (L.length + 1) * 24 ≤ 140737488355328) :
    Calls Try.prog 20 #[dtab vars A L.length C, n.val, .int .u32 r] w fun e w' => RetD w vars (addL vars L n r) (addE vars L n) e w' := by
  have HIN := Lib.hid (fun w => urin_any vars A L.length C n.v w)
  have HPL := Lib.hid (fun w (hh : EL w A L) => urplace_any vars A C L n w hh (by omega))
  obtain ⟨N, hN⟩ : ∃ z, z = L.length := ⟨_, rfl⟩
  have H := Lib.hid (show Go.Tk.Own w 75 4 ecells A N C L by rw [hN]; exact h)
  have hc := plcN_cases L n
  clear h
  have HN := Lib.hid hN
  unfold dtab Nd.val at *
  rw [← hN] at hb hc HIN HPL ⊢
  clear hN
  have HB := Lib.hid hb
  clear hb
  have HC := Lib.hid hc
  clear hc
  go_enter Try.func20, Try.ntmps20
  go_upto_region 1 with fail
  refine wp_world fun w1 hw1 => ?_
  have hs1 : Same w w1 := by rw [hw1]; exact (((Frm.refl _ _).alloc _).alloc _).alloc _
  have hX : Blk w1 w.heap.size 30 #[.int .i64 vars, .slice A N C] := by rw [hw1]; exact ((Blk.new _ _ _).alloc _).alloc _
  have hY : Blk w1 (w.heap.size + 1) 36 #[.int .i64 n.v, .int .u32 n.lo, .int .u32 n.hi] := by
    rw [hw1]
    have := (Blk.new (w.alloc (.cells #[.int .i64 vars, .slice A N C] 30)) 36 #[.int .i64 n.v, .int .u32 n.lo, .int .u32 n.hi]).alloc (.cells #[.int .i64 0, .slice none 0 0] 30)
    rwa [World.size_alloc] at this
  have hR : Blk w1 (w.heap.size + 1 + 1) 30 #[.int .i64 0, .slice none 0 0] := by
    rw [hw1]
    have := Blk.new ((w.alloc (.cells #[.int .i64 vars, .slice A N C] 30)).alloc (.cells #[.int .i64 n.v, .int .u32 n.lo, .int .u32 n.hi] 36)) 30 #[.int .i64 0, .slice none 0 0]
    rwa [World.size_alloc, World.size_alloc] at this
  obtain ⟨X, hXX⟩ : ∃ z, z = w.heap.size := ⟨_, rfl⟩
  obtain ⟨Y, hYY⟩ : ∃ z, z = w.heap.size + 1 := ⟨_, rfl⟩
  obtain ⟨R, hRR⟩ : ∃ z, z = w.heap.size + 1 + 1 := ⟨_, rfl⟩
  rw [← hRR] at hR ⊢
  rw [← hYY] at hY ⊢
  rw [← hXX] at hX ⊢
  have hlo : w.heap.size ≤ R ∧ X ≠ R ∧ Y ≠ R := by omega
  have cX0 : w1.cell? ⟨X, 0, none⟩ = some (.int .i64 vars) := hX.cell 0
  have cX1 : w1.cell? ⟨X, 1, none⟩ = some (.slice A N C) := hX.cell 1
  have cY0 : w1.cell? ⟨Y, 0, none⟩ = some (.int .i64 n.v) := hY.cell 0
  have lX := hX.lt
  have lY := hY.lt
  have HX := Lib.hid hX
  have HY := Lib.hid hY
  have HR := Lib.hid hR
  have H1 := Lib.hid (H.out.frm hs1 (fun _ _ => id))
  have HS1 := Lib.hid hs1
  have HLO := Lib.hid hlo
  clear hw1 hs1 hX hXX hYY hRR hY hR hlo
  have hfinE : ∀ (we : World) (err : Int), Blk we R 30 #[.int .i64 vars, .slice A N C] → Same w we → RetD w vars L err (.returned (.tuple #[.agg #[.int .i64 vars, .slice A N C], .int .i64 err])) we := fun we err _ hs =>
    ⟨A, C, by unfold dtab; rw [← HN.out], by show Go.Tk.Own we _ 4 ecells A L.length C L; rw [← HN.out]; exact H.out.frm hs (fun _ _ => id), hs⟩
  have HFE := Lib.hid hfinE
  clear hfinE
  go_wp2_with (fail)
  refine (HIN.out w1).mono ?_
  rintro e w2 ⟨rfl, hs2⟩
  by_cases hv : 0 ≤ n.v ∧ n.v < vars
  · have hAE : addE vars L n = if (look L n).isSome then 11 else 0 := if_pos hv
    have hAL : addL vars L n r = if (look L n).isSome then L else L ++ [(n, r)] := if_pos hv
    rw [decide_eq_true hv]
    have hX := HX.out.frm hs2 id
    have hY := HY.out.frm hs2 id
    have hR := HR.out.frm hs2 id
    have cX0 : w2.cell? ⟨X, 0, none⟩ = some (.int .i64 vars) := hX.cell 0
    have cX1 : w2.cell? ⟨X, 1, none⟩ = some (.slice A N C) := hX.cell 1
    have cY0 : w2.cell? ⟨Y, 0, none⟩ = some (.int .i64 n.v) := hY.cell 0
    have cY1 : w2.cell? ⟨Y, 1, none⟩ = some (.int .u32 n.lo) := hY.cell 1
    have cY2 : w2.cell? ⟨Y, 2, none⟩ = some (.int .u32 n.hi) := hY.cell 2
    have lX := hX.lt
    have lY := hY.lt
    have HX2 := Lib.hid hX
    have HY2 := Lib.hid hY
    have HR2 := Lib.hid hR
    have HS2 := Lib.hid (HS1.out.trans hs2 (fun _ _ h => h))
    have H2 := Lib.hid (H1.out.frm hs2 (fun _ _ => id))
    clear hX hY hR hs2
    go_wp2_with (fail)
    refine (HPL.out w2 (show Sl w2 4 ecells A L.length L by rw [← HN.out]; exact Own.sl ecells_len H2.out)).mono ?_
    rintro e w3 ⟨rfl, hs3⟩
    have hX := HX2.out.frm hs3 id
    have hY := HY2.out.frm hs3 id
    have hR := HR2.out.frm hs3 id
    have cX0 : w3.cell? ⟨X, 0, none⟩ = some (.int .i64 vars) := hX.cell 0
    have cX1 : w3.cell? ⟨X, 1, none⟩ = some (.slice A N C) := hX.cell 1
    have cY0 : w3.cell? ⟨Y, 0, none⟩ = some (.int .i64 n.v) := hY.cell 0
    have cY1 : w3.cell? ⟨Y, 1, none⟩ = some (.int .u32 n.lo) := hY.cell 1
    have cY2 : w3.cell? ⟨Y, 2, none⟩ = some (.int .u32 n.hi) := hY.cell 2
    have cR0 : w3.cell? ⟨R, 0, none⟩ = some (.int .i64 0) := hR.cell 0
    have cR1 : w3.cell? ⟨R, 1, none⟩ = some (.slice none 0 0) := hR.cell 1
    have fR0 := hR.free 0
    have fR1 := hR.free 1
    have lX := hX.lt
    have lY := hY.lt
    have lR := hR.lt
    have HX3 := Lib.hid hX
    have HY3 := Lib.hid hY
    have HR3 := Lib.hid hR
    have HS3 := Lib.hid (HS2.out.trans hs3 (fun _ _ h => h))
    have H3 := Lib.hid (H2.out.frm hs3 (fun _ _ => id))
    clear hX hY hR hs3 HIN HPL
    rcases HC.out with ⟨hp, hl⟩ | ⟨i, r0, hp, hi, hr, hl⟩
    · rw [hp]
      have hE : (look L n).isSome = false := by rw [hl]; rfl
      rw [if_neg (by rw [hE]; exact Bool.false_ne_true)] at hAE hAL
      have HAE := Lib.hid hAE
      have HAL := Lib.hid hAL
      clear hp hl hE hAE hAL hv
      go_upto_region 6 with fail
      refine wp_read 3 ?_
      simp only [List.take_succ_cons, List.take_zero, List.drop_succ_cons, List.drop_zero]
      repeat (any_goals (first | go_big_quiet_step (fail) | quiet_step (fail)))
      refine wpQuiet_nil ?_
      refine wpList_plain rfl fun K hK => ?_
      refine Own.append_many (.tmp 20) (.tmp 22) _ rfl Try.underlying28 info_item rfl (by omega) rfl (Own.nil w3 _ _ _) ecells_len L A C (by rw [← HN.out]; rfl) (fun hne => Own.src H3.out ecells_len (by omega) hne) (fun y _ => ecells_one y) (by simp [maxLen]; have := HB.out; have := HN.out; omega) (by simp; have := HB.out; have := HN.out; omega) ?_
      intro A1 C1 w4 hO1 hg1 hat1
      refine hK _ _ ?_
      clear hK K
      rw [List.nil_append] at hO1 ⊢
      have hs4 : Same w3 w4 := (Frm.refl _ _).grown hg1 (fun g hg => by cases hg)
      have hA1 : ∀ b, rowOf A1 b → b = w3.heap.size := fun b hb => (hat1 b hb).elim (fun ⟨_, h, _⟩ => by cases h) id
      have hX := HX3.out.frm hs4 id
      have hY := HY3.out.frm hs4 id
      have hR := HR3.out.frm hs4 id
      have cX0 : w4.cell? ⟨X, 0, none⟩ = some (.int .i64 vars) := hX.cell 0
      have cY0 : w4.cell? ⟨Y, 0, none⟩ = some (.int .i64 n.v) := hY.cell 0
      have cY1 : w4.cell? ⟨Y, 1, none⟩ = some (.int .u32 n.lo) := hY.cell 1
      have cY2 : w4.cell? ⟨Y, 2, none⟩ = some (.int .u32 n.hi) := hY.cell 2
      have hS : ∃ S : Nat → Prop, S = fun b => b = R ∨ rowOf A1 b := ⟨_, rfl⟩
      obtain ⟨S, hS⟩ := hS
      have nX : ¬ S X := by
        rw [hS]; rintro (e | e)
        · exact HLO.out.2.1 e
        · have := hA1 X e; omega
      have nY : ¬ S Y := by
        rw [hS]; rintro (e | e)
        · exact HLO.out.2.2 e
        · have := hA1 Y e; omega
      have sR : S R := by rw [hS]; exact .inl rfl
      have HSS := Lib.hid hS
      have lX := hX.lt
      have lY := hY.lt
      have hRn : ∀ b, rowOf A1 b → b ≠ R := fun b hb e => by have := hA1 b hb; omega
      have HRN := Lib.hid hRn
      have HA1 := Lib.hid hA1
      have HR4 := Lib.hid hR
      have HS4 := Lib.hid (HS3.out.trans hs4 (fun _ _ h => h))
      have HO1 := Lib.hid hO1
      have H34 := Lib.hid hs4
      clear hX hY hR hs4 hg1 hat1 hA1 hS hO1 hRn cX1 cR0 cR1 fR0 fR1
      go_upto_region 7 with fail
      refine wp_phS S [([0, 1, 2, 3, 4, 5], 6), ([], 7), ([8], 9), ([], 10)] (by kernel_rfl) (by kernel_rfl) ?_
      simp only [wpPh, pick, List.map_cons, List.map_nil, List.getD_cons_zero, List.getD_cons_succ]
      repeat (any_goals (first | go_big_quiet_step (fail) | quiet_step (fail)))
      refine wpQuiet_nil ?_
      refine effStep_plain rfl fun K hK => ?_
      go_simp
      obtain ⟨w5, hw5⟩ : ∃ z, z = (w4.alloc (.cells #[.int .i64 n.v, .int .u32 n.lo, .int .u32 n.hi, .int .u32 r] 75)).drew := ⟨_, rfl⟩
      rw [← hw5]
      have hs5 : Same w4 w5 := by rw [hw5]; exact ((Frm.refl _ _).alloc _).drew
      have hB5 : Blk w5 w4.heap.size 75 #[.int .i64 n.v, .int .u32 n.lo, .int .u32 n.hi, .int .u32 r] := by rw [hw5]; exact Blk.new w4 _ _
      clear hw5
      have hf5 : Frm S w4 w5 := (Frm.refl S w4).trans hs5 (fun _ _ h => h.elim)
      refine hK _ _ (Lat.mk_ hf5) ?_
      clear hK K
      refine wpQuiet_nil ?_
      refine effStep_plain rfl fun K hK => ?_
      refine Own.append_many (.tmp 26) (.tmp 30) _ rfl Try.underlying28 info_item rfl (by omega) rfl (HO1.out.frm hs5 (fun _ _ => id)) ecells_len [(n, r)] (some ⟨w4.heap.size, 0, none⟩) 1 rfl (fun _ => ⟨_, rfl, news_of_blk (l := ecells (n, r)) hB5⟩) (fun y _ => ecells_one y) (by simp [maxLen]; have := HB.out; have := HN.out; omega) (by simp; have := HB.out; have := HN.out; omega) ?_
      intro A2 C2 w6 hO2 hg2 hat2
      have hf6 : Frm S w5 w6 := (Frm.refl S w5).grown hg2 (fun g hg => .inl (by rw [HSS.out]; exact .inr (ownBlock_row.1 hg)))
      have hA2 : ∀ b, rowOf A2 b → b ≠ R := fun b hb => by
        rcases hat2 b hb with h | h
        · exact HRN.out b h
        · have h1 := HR4.out.lt
          have h2 := hs5.size
          omega
      have hs6 : Same w w6 := (HS4.out.trans hs5 (fun _ _ h => h)).grown hg2 (fun g hg => .inr (by
        have h1 := HA1.out g (ownBlock_row.1 hg)
        have h2 := HS3.out.size
        omega))
      have hR6 : Blk w6 R 30 #[.int .i64 0, .slice none 0 0] := (HR4.out.frm hs5 id).grown hg2 (fun h => HRN.out R (ownBlock_row.1 h.symm) rfl)
      refine hK _ _ (Lat.mk_ (hf5.trans hf6 (fun _ _ h => h))) ?_
      clear hK K
      have HO2 := Lib.hid hO2
      have HS6 := Lib.hid hs6
      have HR6 := Lib.hid hR6
      have HA2 := Lib.hid hA2
      have HF6 := Lib.hid (hf5.trans hf6 (fun _ _ h => h))
      clear hO2 hs6 hA2 hg2 hat2 hf6 hs5 hf5 hB5
      generalize L ++ [(n, r)] = L2 at HAL HO2 ⊢
      repeat (any_goals (first | go_big_quiet_step (fail) | quiet_step (fail)))
      refine wpQuiet_nil ?_
      refine effStep_plain rfl fun K hK => ?_
      have cR0 : w6.cell? ⟨R, 0, none⟩ = some (.int .i64 0) := hR6.cell 0
      have cR1 : w6.cell? ⟨R, 1, none⟩ = some (.slice none 0 0) := hR6.cell 1
      have fR0 := hR6.free 0
      have fR1 := hR6.free 1
      clear hR6
      go_simp
      obtain ⟨w7, hw7⟩ : ∃ z, z = (w6.setCell ⟨R, 0, none⟩ (.int .i64 vars)).setCell ⟨R, 1, none⟩ (.slice A2 L2.length C2) := ⟨_, rfl⟩
      rw [← hw7]
      have hB7 : Blk w7 R 30 #[.int .i64 vars, .slice A2 L2.length C2] := by
        rw [hw7]
        have := (HR6.out.set 0 (.int .i64 vars)).set 1 (.slice A2 L2.length C2)
        simpa using this
      have hs7 : Same w w7 := by rw [hw7]; exact (HS6.out.setNew 0 _ HLO.out.1).setNew 1 _ HLO.out.1
      have hO7 : OE w7 A2 C2 L2 := by
        rw [hw7]
        exact (Own.far (p := ⟨R, 0, none⟩) HO2.out (fun a ha => HA2.out a.block ⟨a, ha, rfl⟩) _).far (p := ⟨R, 1, none⟩) (fun a ha => HA2.out a.block ⟨a, ha, rfl⟩) _
      have hf7 : Frm S w4 w7 := by rw [hw7]; exact (HF6.out.set 0 _ sR).set 1 _ sR
      refine hK _ _ (Lat.mk_ hf7) ?_
      clear hK K cR0 cR1 fR0 fR1
      have q0 : w7.cell? ⟨R, 0, none⟩ = some (.int .i64 vars) := hB7.cell 0
      have q1 : w7.cell? ⟨R, 1, none⟩ = some (.slice A2 L2.length C2) := hB7.cell 1
      have HO7 := Lib.hid hO7
      have HS7 := Lib.hid hs7
      clear hw7 hB7 hs7 hO7 hf7
      refine wpQuiet_nil ?_
      go_wp2
      refine bodyPost_ret (v := .tuple #[.agg #[.int .i64 vars, .slice A2 L2.length C2], .int .i64 0]) (by simp [results, Try.results20, go_sem, q0, q1]) rfl ?_
      rw [HAE.out, HAL.out]
      exact ⟨A2, C2, rfl, HO7.out, HS7.out⟩
    · rw [hp]
      have hE : (look L n).isSome = true := by rw [hl]; rfl
      rw [if_pos hE] at hAE hAL
      have hi0 : (0 : Int) ≤ i := by omega
      have HAE := Lib.hid hAE
      have HAL := Lib.hid hAL
      clear hp hl hE hr hAE hAL hv
      go_wp2
      refine wp_post fun we hwe => ?_
      have hB : Blk we R 30 #[.int .i64 vars, .slice A N C] := by
        rw [hwe]
        have := (HR3.out.set 0 (.int .i64 vars)).set 1 (.slice A N C)
        simpa using this
      have hs : Same w we := by rw [hwe]; exact (HS3.out.setNew 0 _ HLO.out.1).setNew 1 _ HLO.out.1
      have q0 : we.cell? ⟨R, 0, none⟩ = some (.int .i64 vars) := hB.cell 0
      have q1 : we.cell? ⟨R, 1, none⟩ = some (.slice A N C) := hB.cell 1
      clear hwe
      refine bodyPost_ret (v := .tuple #[.agg #[.int .i64 vars, .slice A N C], .int .i64 11]) (by simp [results, Try.results20, go_sem, q0, q1]) rfl ?_
      rw [HAE.out, HAL.out]
      exact HFE.out we 11 hB hs
  · have HAE := Lib.hid (show addE vars L n = 2 from if_neg hv)
    have HAL := Lib.hid (show addL vars L n r = L from if_neg hv)
    rw [decide_eq_false hv]
    have hX := HX.out.frm hs2 id
    have hR := HR.out.frm hs2 id
    have cX0 : w2.cell? ⟨X, 0, none⟩ = some (.int .i64 vars) := hX.cell 0
    have cX1 : w2.cell? ⟨X, 1, none⟩ = some (.slice A N C) := hX.cell 1
    have cR0 : w2.cell? ⟨R, 0, none⟩ = some (.int .i64 0) := hR.cell 0
    have cR1 : w2.cell? ⟨R, 1, none⟩ = some (.slice none 0 0) := hR.cell 1
    have fR0 := hR.free 0
    have fR1 := hR.free 1
    have lX := hX.lt
    have lR := hR.lt
    have HR2 := Lib.hid hR
    have HS2 := Lib.hid (HS1.out.trans hs2 (fun _ _ h => h))
    clear hX hR hs2 hv HPL HIN
    go_wp2
    refine wp_post fun we hwe => ?_
    have hB : Blk we R 30 #[.int .i64 vars, .slice A N C] := by
      rw [hwe]
      have := (HR2.out.set 0 (.int .i64 vars)).set 1 (.slice A N C)
      simpa using this
    have hs : Same w we := by rw [hwe]; exact (HS2.out.setNew 0 _ HLO.out.1).setNew 1 _ HLO.out.1
    have q0 : we.cell? ⟨R, 0, none⟩ = some (.int .i64 vars) := hB.cell 0
    have q1 : we.cell? ⟨R, 1, none⟩ = some (.slice A N C) := hB.cell 1
    clear hwe
    refine bodyPost_ret (v := .tuple #[.agg #[.int .i64 vars, .slice A N C], .int .i64 2]) (by simp [results, Try.results20, go_sem, q0, q1]) rfl ?_
    rw [HAE.out, HAL.out]
    exact HFE.out we 2 hB hs
end Go.Proofs.Ytkelbbalffijbaa


/- The reference's table of nodes: DocRemove. -/
namespace Go.Proofs.Ytkelbbalffijbaa
open Go.RowKit Go.Tk Go.Maps

theorem addr_add_block (p : Addr) (j : Nat) : (p.add j).block = p.block := by unfold Addr.add; split <;> rfl
theorem rem_list : ∀ {L : List Ent} {n : Nd} {r : Int} {i : Nat}, (keys L).Nodup → L[i]? = some (n, r) → without n L = L.take i ++ L.drop (i + 1)
  | [], _, _, _, _, h => by simp at h
  | p :: L, n, r, 0, hn, h => by
    obtain ⟨h1, h2⟩ := List.nodup_cons.1 (show (p.1 :: keys L).Nodup from hn)
    simp at h
    subst h
    unfold without
    rw [List.filter_cons, if_neg (by simp)]
    simp
    intro a b hab e
    subst e
    exact h1 (mem_keys.2 ⟨b, hab⟩)
  | p :: L, n, r, i + 1, hn, h => by
    obtain ⟨h1, h2⟩ := List.nodup_cons.1 (show (p.1 :: keys L).Nodup from hn)
    have h3 : L[i]? = some (n, r) := by simpa using h
    have hne : p.1 ≠ n := fun e => h1 (e ▸ mem_keys.2 ⟨r, List.mem_of_getElem? h3⟩)
    have ih := rem_list h2 h3
    unfold without at ih ⊢
    rw [List.filter_cons, if_pos (by simp [hne]), ih]
    rfl
set_option maxRecDepth 100000 in
set_option maxHeartbeats 4000000 in
theorem urrem_any (vars : Nat) (A : Option Addr) (C : Nat) (L : List Ent) (n : Nd) (w : World) (h : OE w A C L) (hnd : (keys L).Nodup) (hb : (L.length + 1) * 24 ≤ 140737488355328) :
    Calls Try.prog 21 #[dtab vars A L.length C, n.val] w fun e w' => RetD w vars (remL vars L n) (remE vars L n) e w' := by
  have HIN := Lib.hid (fun w => urin_any vars A L.length C n.v w)
  have HPL := Lib.hid (fun w (hh : EL w A L) => urplace_any vars A C L n w hh (by omega))
  obtain ⟨N, hN⟩ : ∃ z, z = L.length := ⟨_, rfl⟩
  have H := Lib.hid (show Go.Tk.Own w 75 4 ecells A N C L by rw [hN]; exact h)
  have hc := plcN_cases L n
  clear h
  have HN := Lib.hid hN
  unfold dtab Nd.val at *
  rw [← hN] at hb hc HIN HPL ⊢
  clear hN
  have HB := Lib.hid hb
  clear hb
  have HC := Lib.hid hc
  clear hc
  go_enter Try.func21, Try.ntmps21
  go_upto_region 1 with fail
  refine wp_world fun w1 hw1 => ?_
  have hs1 : Same w w1 := by rw [hw1]; exact (((Frm.refl _ _).alloc _).alloc _).alloc _
  have hX : Blk w1 w.heap.size 30 #[.int .i64 vars, .slice A N C] := by rw [hw1]; exact ((Blk.new _ _ _).alloc _).alloc _
  have hY : Blk w1 (w.heap.size + 1) 36 #[.int .i64 n.v, .int .u32 n.lo, .int .u32 n.hi] := by
    rw [hw1]
    have := (Blk.new (w.alloc (.cells #[.int .i64 vars, .slice A N C] 30)) 36 #[.int .i64 n.v, .int .u32 n.lo, .int .u32 n.hi]).alloc (.cells #[.int .i64 0, .slice none 0 0] 30)
    rwa [World.size_alloc] at this
  have hR : Blk w1 (w.heap.size + 1 + 1) 30 #[.int .i64 0, .slice none 0 0] := by
    rw [hw1]
    have := Blk.new ((w.alloc (.cells #[.int .i64 vars, .slice A N C] 30)).alloc (.cells #[.int .i64 n.v, .int .u32 n.lo, .int .u32 n.hi] 36)) 30 #[.int .i64 0, .slice none 0 0]
    rwa [World.size_alloc, World.size_alloc] at this
  obtain ⟨X, hXX⟩ : ∃ z, z = w.heap.size := ⟨_, rfl⟩
  obtain ⟨Y, hYY⟩ : ∃ z, z = w.heap.size + 1 := ⟨_, rfl⟩
  obtain ⟨R, hRR⟩ : ∃ z, z = w.heap.size + 1 + 1 := ⟨_, rfl⟩
  rw [← hRR] at hR ⊢
  rw [← hYY] at hY ⊢
  rw [← hXX] at hX ⊢
  have hlo : w.heap.size ≤ R ∧ X ≠ R ∧ Y ≠ R := by omega
  have cX0 : w1.cell? ⟨X, 0, none⟩ = some (.int .i64 vars) := hX.cell 0
  have cX1 : w1.cell? ⟨X, 1, none⟩ = some (.slice A N C) := hX.cell 1
  have cY0 : w1.cell? ⟨Y, 0, none⟩ = some (.int .i64 n.v) := hY.cell 0
  have lX := hX.lt
  have lY := hY.lt
  have HX := Lib.hid hX
  have HY := Lib.hid hY
  have HR := Lib.hid hR
  have H1 := Lib.hid (H.out.frm hs1 (fun _ _ => id))
  have HS1 := Lib.hid hs1
  have HLO := Lib.hid hlo
  clear hw1 hs1 hX hXX hYY hRR hY hR hlo
  have hfinE : ∀ (we : World) (err : Int), Blk we R 30 #[.int .i64 vars, .slice A N C] → Same w we → RetD w vars L err (.returned (.tuple #[.agg #[.int .i64 vars, .slice A N C], .int .i64 err])) we := fun we err _ hs =>
    ⟨A, C, by unfold dtab; rw [← HN.out], by show Go.Tk.Own we _ 4 ecells A L.length C L; rw [← HN.out]; exact H.out.frm hs (fun _ _ => id), hs⟩
  have HFE := Lib.hid hfinE
  clear hfinE
  go_wp2_with (fail)
  refine (HIN.out w1).mono ?_
  rintro e w2 ⟨rfl, hs2⟩
  by_cases hv : 0 ≤ n.v ∧ n.v < vars
  · have hAE : remE vars L n = if (look L n).isSome then 0 else 10 := if_pos hv
    have hAL : remL vars L n = if (look L n).isSome then without n L else L := if_pos hv
    rw [decide_eq_true hv]
    have hX := HX.out.frm hs2 id
    have hY := HY.out.frm hs2 id
    have hR := HR.out.frm hs2 id
    have cX0 : w2.cell? ⟨X, 0, none⟩ = some (.int .i64 vars) := hX.cell 0
    have cX1 : w2.cell? ⟨X, 1, none⟩ = some (.slice A N C) := hX.cell 1
    have cY0 : w2.cell? ⟨Y, 0, none⟩ = some (.int .i64 n.v) := hY.cell 0
    have cY1 : w2.cell? ⟨Y, 1, none⟩ = some (.int .u32 n.lo) := hY.cell 1
    have cY2 : w2.cell? ⟨Y, 2, none⟩ = some (.int .u32 n.hi) := hY.cell 2
    have lX := hX.lt
    have lY := hY.lt
    have HX2 := Lib.hid hX
    have HY2 := Lib.hid hY
    have HR2 := Lib.hid hR
    have HS2 := Lib.hid (HS1.out.trans hs2 (fun _ _ h => h))
    have H2 := Lib.hid (H1.out.frm hs2 (fun _ _ => id))
    clear hX hY hR hs2
    go_wp2_with (fail)
    refine (HPL.out w2 (show Sl w2 4 ecells A L.length L by rw [← HN.out]; exact Own.sl ecells_len H2.out)).mono ?_
    rintro e w3 ⟨rfl, hs3⟩
    have hX := HX2.out.frm hs3 id
    have hY := HY2.out.frm hs3 id
    have hR := HR2.out.frm hs3 id
    have cX0 : w3.cell? ⟨X, 0, none⟩ = some (.int .i64 vars) := hX.cell 0
    have cX1 : w3.cell? ⟨X, 1, none⟩ = some (.slice A N C) := hX.cell 1
    have cY0 : w3.cell? ⟨Y, 0, none⟩ = some (.int .i64 n.v) := hY.cell 0
    have cY1 : w3.cell? ⟨Y, 1, none⟩ = some (.int .u32 n.lo) := hY.cell 1
    have cY2 : w3.cell? ⟨Y, 2, none⟩ = some (.int .u32 n.hi) := hY.cell 2
    have cR0 : w3.cell? ⟨R, 0, none⟩ = some (.int .i64 0) := hR.cell 0
    have cR1 : w3.cell? ⟨R, 1, none⟩ = some (.slice none 0 0) := hR.cell 1
    have fR0 := hR.free 0
    have fR1 := hR.free 1
    have lX := hX.lt
    have lY := hY.lt
    have lR := hR.lt
    have HX3 := Lib.hid hX
    have HY3 := Lib.hid hY
    have HR3 := Lib.hid hR
    have HS3 := Lib.hid (HS2.out.trans hs3 (fun _ _ h => h))
    have H3 := Lib.hid (H2.out.frm hs3 (fun _ _ => id))
    clear hX hY hR hs3 HIN HPL
    rcases HC.out with ⟨hp, hl⟩ | ⟨i, r0, hp, hi, hr, hl⟩
    · rw [hp]
      have hE : (look L n).isSome = false := by rw [hl]; rfl
      rw [if_neg (by rw [hE]; exact Bool.false_ne_true)] at hAE hAL
      have HAE := Lib.hid hAE
      have HAL := Lib.hid hAL
      clear hp hl hE hAE hAL hv
      go_wp2
      refine wp_post fun we hwe => ?_
      have hB : Blk we R 30 #[.int .i64 vars, .slice A N C] := by
        rw [hwe]
        have := (HR3.out.set 0 (.int .i64 vars)).set 1 (.slice A N C)
        simpa using this
      have hs : Same w we := by rw [hwe]; exact (HS3.out.setNew 0 _ HLO.out.1).setNew 1 _ HLO.out.1
      have q0 : we.cell? ⟨R, 0, none⟩ = some (.int .i64 vars) := hB.cell 0
      have q1 : we.cell? ⟨R, 1, none⟩ = some (.slice A N C) := hB.cell 1
      clear hwe
      refine bodyPost_ret (v := .tuple #[.agg #[.int .i64 vars, .slice A N C],   .int .i64 10]) (by simp [results, Try.results21, go_sem, q0, q1]) rfl ?_
      rw [HAE.out, HAL.out]
      exact HFE.out we 10 hB hs
    · rw [hp]
      have hE : (look L n).isSome = true := by rw [hl]; rfl
      rw [if_pos hE] at hAE hAL
      have HAE := Lib.hid hAE
      have HAL := Lib.hid (hAL.trans (rem_list hnd hr))
      have hil : i < L.length := lt_of_get hr
      clear hp hl hE hr hAE hAL hv hnd
      obtain ⟨sb, rfl, hsb⟩ := H3.out.form (by omega)
      have hcap : N ≤ C := H3.out.cap
      have hi0 : (0 : Int) ≤ i := by omega
      have hi1 : (i : Int) < N := by omega
      have hn0 : ¬ (i : Int) < 0 := by omega
      have hiC : (i : Int) ≤ C := by omega
      have hpc : ∀ (k : Nat) (x : Ent), L[k]? = some x → ∀ j, j < 4 → w3.cell? ⟨sb, k * 4 + j, none⟩ = (ecells x)[j]? := fun k x hx => by
        obtain ⟨sb', h1, _, h3⟩ := Own.get ecells_len H3.out hx
        cases h1
        exact h3
      have hlt1 : (L.take i).length = i := by rw [List.length_take]; omega
      have hlt2 : (L.drop (i + 1)).length = N - (i + 1) := by rw [List.length_drop, HN.out]
      have hp1 := part_cells ecells_len (by omega) hpc 0 (L.take i) (fun k x hx => by
        rw [List.getElem?_take] at hx
        split at hx
        · rw [Nat.zero_add]; exact hx
        · cases hx)
      have HPC := Lib.hid hpc
      have HP1 := Lib.hid hp1
      have HT := Lib.hid hlt1
      have HT2 := Lib.hid hlt2
      have HSB := Lib.hid hsb
      clear hpc hp1 hlt1 hlt2 hsb
      go_upto_region 7 with fail
      refine wp_read 5 ?_
      simp only [List.take_succ_cons, List.take_zero, List.drop_succ_cons, List.drop_zero]
      repeat (any_goals (first | go_big_quiet_step (fail) | quiet_step (fail)))
      refine wpQuiet_nil ?_
      refine wpList_plain rfl fun K hK => ?_
      refine Own.append_many (.tmp 20) (.tmp 24) _ rfl Try.underlying28 info_item rfl (by omega) rfl (Own.nil w3 _ _ _) ecells_len (L.take i) (some ⟨sb, 0, none⟩) C (by rw [HT.out]; rfl) (fun _ => ⟨_, rfl, by simpa using HP1.out⟩) (fun y _ => ecells_one y) (by rw [HT.out]; simp [maxLen]; have := HB.out; omega) (by rw [HT.out]; simp; have := HB.out; omega) ?_
      intro A1 C1 w4 hO1 hg1 hat1
      refine hK _ _ ?_
      clear hK K
      rw [List.nil_append] at hO1 ⊢
      rw [HT.out] at hO1 ⊢
      have hs4 : Same w3 w4 := (Frm.refl _ _).grown hg1 (fun g hg => by cases hg)
      have hA1 : ∀ b, rowOf A1 b → b = w3.heap.size := fun b hb => (hat1 b hb).elim (fun ⟨_, h, _⟩ => by cases h) id
      have hX := HX3.out.frm hs4 id
      have hR := HR3.out.frm hs4 id
      have cX0 : w4.cell? ⟨X, 0, none⟩ = some (.int .i64 vars) := hX.cell 0
      have cX1 : w4.cell? ⟨X, 1, none⟩ = some (.slice (some ⟨sb, 0, none⟩) N C) := hX.cell 1
      have hS : ∃ S : Nat → Prop, S = fun b => b = R ∨ rowOf A1 b := ⟨_, rfl⟩
      obtain ⟨S, hS⟩ := hS
      have nX : ¬ S X := by
        rw [hS]; rintro (e | e)
        · exact HLO.out.2.1 e
        · have := hA1 X e; omega
      have sR : S R := by rw [hS]; exact .inl rfl
      have HSS := Lib.hid hS
      have lX := hX.lt
      have hRn : ∀ b, rowOf A1 b → b ≠ R := fun b hb e => by have := hA1 b hb; omega
      have hp2 : ∀ j u, ((L.drop (i + 1)).flatMap ecells)[j]? = some u → w4.cell? ((⟨sb, (i + 1) * 4, none⟩ : Addr).add j) = some u := part_cells ecells_len (by omega) (fun k x hx j hj => by rw [← HPC.out k x hx j hj]; exact hs4.cell HSB.out id) (i + 1) (L.drop (i + 1)) (fun k x hx => by rw [List.getElem?_drop] at hx; exact hx)
      have HP2 := Lib.hid hp2
      have HSB4 := Lib.hid (Nat.lt_of_lt_of_le HSB.out hs4.size)
      have HRN := Lib.hid hRn
      have HA1 := Lib.hid hA1
      have HR4 := Lib.hid hR
      have HS4 := Lib.hid (HS3.out.trans hs4 (fun _ _ h => h))
      have HO1 := Lib.hid hO1
      have hi2 : (i : Int) + 1 ≤ N := by omega
      have hi3 : (0 : Int) ≤ i + 1 := by omega
      have hi4 : ((i : Int) + 1).toNat = i + 1 := by omega
      have hi5 : IntKind.i64.wrap ((i : Int) + 1) = i + 1 := IntWalk.i64_in _ (by have := HB.out; omega)
      have hi6 : (i : Int) + 1 ≤ C := by omega
      clear hX hR hs4 hg1 hat1 hA1 hS hO1 hRn cR0 cR1 fR0 fR1 hp2 cY0 cY1 cY2 lY
      go_upto_region 8 with fail
      refine wp_phS S [([0, 1, 2, 3, 4, 5, 6, 7], 8), ([9], 10), ([], 11)] (by kernel_rfl) (by kernel_rfl) ?_
      simp only [wpPh, pick, List.map_cons, List.map_nil, List.getD_cons_zero, List.getD_cons_succ]
      repeat (any_goals (first | go_big_quiet_step (fail) | quiet_step (fail)))
      refine wpQuiet_nil ?_
      refine effStep_plain rfl fun K hK => ?_
      obtain ⟨w5, hw5⟩ : ∃ z, z = w4.drew := ⟨_, rfl⟩
      have hs5 : Same w4 w5 := by rw [hw5]; exact (Frm.refl _ _).drew
      rw [← hw5]
      clear hw5
      have hf5 : Frm S w4 w5 := (Frm.refl S w4).trans hs5 (fun _ _ h => h.elim)
      refine Own.append_many (.tmp 28) (.tmp 33) _ rfl Try.underlying28 info_item rfl (by omega) rfl (HO1.out.frm hs5 (fun _ _ => id)) ecells_len (L.drop (i + 1)) (if C = i + 1 then some ⟨sb, 0, none⟩ else some ⟨sb, (i + 1) * 4, none⟩) (C - (i + 1)) (by rw [HT2.out]; rfl) (fun hne => ?_) (fun y _ => ecells_one y) (by rw [HT.out, HT2.out]; simp [maxLen]; have := HB.out; omega) (by rw [HT.out, HT2.out]; have := HB.out; omega) ?_
      · split
        · exact absurd (List.length_eq_zero_iff.1 (by rw [HT2.out]; omega)) hne
        · exact ⟨_, rfl, fun j u hj => (hs5.cell (p := (⟨sb, (i + 1) * 4, none⟩ : Addr).add j) (by rw [addr_add_block]; exact HSB4.out) id).trans (HP2.out j u hj)⟩
      intro A2 C2 w6 hO2 hg2 hat2
      have hf6 : Frm S w5 w6 := (Frm.refl S w5).grown hg2 (fun g hg => .inl (by rw [HSS.out]; exact .inr (ownBlock_row.1 hg)))
      have hA2 : ∀ b, rowOf A2 b → b ≠ R := fun b hb => by
        rcases hat2 b hb with h | h
        · exact HRN.out b h
        · have h1 := HR4.out.lt
          have h2 := hs5.size
          omega
      have hs6 : Same w w6 := (HS4.out.trans hs5 (fun _ _ h => h)).grown hg2 (fun g hg => .inr (by
        have h1 := HA1.out g (ownBlock_row.1 hg)
        have h2 := HS3.out.size
        omega))
      have hR6 : Blk w6 R 30 #[.int .i64 0, .slice none 0 0] := (HR4.out.frm hs5 id).grown hg2 (fun h => HRN.out R (ownBlock_row.1 h.symm) rfl)
      refine hK _ _ (Lat.mk_ (hf5.trans hf6 (fun _ _ h => h))) ?_
      clear hK K
      have HO2 := Lib.hid hO2
      have HS6 := Lib.hid hs6
      have HR6 := Lib.hid hR6
      have HA2 := Lib.hid hA2
      have HF6 := Lib.hid (hf5.trans hf6 (fun _ _ h => h))
      clear hO2 hs6 hA2 hg2 hat2 hf6 hs5 hf5
      generalize L.take i ++ L.drop (i + 1) = L2 at HAL HO2 ⊢
      repeat (any_goals (first | go_big_quiet_step (fail) | quiet_step (fail)))
      refine wpQuiet_nil ?_
      refine effStep_plain rfl fun K hK => ?_
      have cR0 : w6.cell? ⟨R, 0, none⟩ = some (.int .i64 0) := hR6.cell 0
      have cR1 : w6.cell? ⟨R, 1, none⟩ = some (.slice none 0 0) := hR6.cell 1
      have fR0 := hR6.free 0
      have fR1 := hR6.free 1
      clear hR6
      go_simp
      obtain ⟨w7, hw7⟩ : ∃ z, z = (w6.setCell ⟨R, 0, none⟩ (.int .i64 vars)).setCell ⟨R, 1, none⟩ (.slice A2 L2.length C2) := ⟨_, rfl⟩
      rw [← hw7]
      have hB7 : Blk w7 R 30 #[.int .i64 vars, .slice A2 L2.length C2] := by
        rw [hw7]
        have := (HR6.out.set 0 (.int .i64 vars)).set 1 (.slice A2 L2.length C2)
        simpa using this
      have hs7 : Same w w7 := by rw [hw7]; exact (HS6.out.setNew 0 _ HLO.out.1).setNew 1 _ HLO.out.1
      have hO7 : OE w7 A2 C2 L2 := by
        rw [hw7]
        exact (Own.far (p := ⟨R, 0, none⟩) HO2.out (fun a ha => HA2.out a.block ⟨a, ha, rfl⟩) _).far (p := ⟨R, 1, none⟩) (fun a ha => HA2.out a.block ⟨a, ha, rfl⟩) _
      have hf7 : Frm S w4 w7 := by rw [hw7]; exact (HF6.out.set 0 _ sR).set 1 _ sR
      refine hK _ _ (Lat.mk_ hf7) ?_
      clear hK K cR0 cR1 fR0 fR1
      have q0 : w7.cell? ⟨R, 0, none⟩ = some (.int .i64 vars) := hB7.cell 0
      have q1 : w7.cell? ⟨R, 1, none⟩ = some (.slice A2 L2.length C2) := hB7.cell 1
      have HO7 := Lib.hid hO7
      have HS7 := Lib.hid hs7
      clear hw7 hB7 hs7 hO7 hf7
      refine wpQuiet_nil ?_
      go_wp2
      all_goals
        refine bodyPost_ret (v := .tuple #[.agg #[.int .i64 vars, .slice A2 L2.length C2], .int .i64 0]) (by simp [results, Try.results21, go_sem, q0, q1]) rfl ?_
        rw [HAE.out, HAL.out]
        exact ⟨A2, C2, rfl, HO7.out, HS7.out⟩
  · have HAE := Lib.hid (show remE vars L n = 2 from if_neg hv)
    have HAL := Lib.hid (show remL vars L n = L from if_neg hv)
    rw [decide_eq_false hv]
    have hX := HX.out.frm hs2 id
    have hR := HR.out.frm hs2 id
    have cX0 : w2.cell? ⟨X, 0, none⟩ = some (.int .i64 vars) := hX.cell 0
    have cX1 : w2.cell? ⟨X, 1, none⟩ = some (.slice A N C) := hX.cell 1
    have cR0 : w2.cell? ⟨R, 0, none⟩ = some (.int .i64 0) := hR.cell 0
    have cR1 : w2.cell? ⟨R, 1, none⟩ = some (.slice none 0 0) := hR.cell 1
    have fR0 := hR.free 0
    have fR1 := hR.free 1
    have lX := hX.lt
    have lR := hR.lt
    have HR2 := Lib.hid hR
    have HS2 := Lib.hid (HS1.out.trans hs2 (fun _ _ h => h))
    clear hX hR hs2 hv HPL HIN
    go_wp2
    refine wp_post fun we hwe => ?_
    have hB : Blk we R 30 #[.int .i64 vars, .slice A N C] := by
      rw [hwe]
      have := (HR2.out.set 0 (.int .i64 vars)).set 1 (.slice A N C)
      simpa using this
    have hs : Same w we := by rw [hwe]; exact (HS2.out.setNew 0 _ HLO.out.1).setNew 1 _ HLO.out.1
    have q0 : we.cell? ⟨R, 0, none⟩ = some (.int .i64 vars) := hB.cell 0
    have q1 : we.cell? ⟨R, 1, none⟩ = some (.slice A N C) := hB.cell 1
    clear hwe
    refine bodyPost_ret (v := .tuple #[.agg #[.int .i64 vars, .slice A N C], .int .i64 2]) (by simp [results, Try.results21, go_sem, q0, q1]) rfl ?_
    rw [HAE.out, HAL.out]
    exact HFE.out we 2 hB hs
end Go.Proofs.Ytkelbbalffijbaa


/- The unique table: New; a nil one. -/
namespace Go.Proofs.Ytkelbbalffijbaa
open Go.RowKit Go.Tk Go.Maps

set_option maxRecDepth 100000 in
theorem uqnew_bad (vars : Int) (h : ¬ (1 ≤ vars ∧ vars ≤ 64)) (w : World) : Calls Try.prog 9 #[.int .i64 vars] w fun e w' => e = .returned (.tuple #[.pointer none, .int .i64 1]) ∧ w' = w := by
  rcases Int.lt_or_le vars 1 with h1 | h1
  · clear h
    go_enter Try.func9, Try.ntmps9
    go_wp2
    go_ret2
    exact ⟨rfl, rfl⟩
  · have h3 : ¬ vars < 1 := by omega
    have h2 : 64 < vars := by omega
    clear h
    go_enter Try.func9, Try.ntmps9
    go_wp2
    go_ret2
    exact ⟨rfl, rfl⟩
theorem info_nmap : (Try.prog.info? 64).map (fun i => (i.zero, i.size, i.bytes)) = some (some (.map none), 1, 8) := by kernel_rfl
/-- a table under way: the maps below k are made -/
structure UTp (w0 w : World) (U : UTab) (n k : Nat) : Prop where
  same : Same w0 w
  t : Blk w U.T 63 #[.slice (some ⟨U.sb, 0, none⟩) n n]
  s : ∃ cs, Blk w U.sb 64 cs ∧ cs.size = n ∧ ∀ v, v < k → cs[v]? = some (.map (some (U.mb v)))
  m : ∀ v, v < k → NM 34 .u32 w (U.mb v) []
  inj : ∀ u v, u < k → v < k → U.mb u = U.mb v → u = v
  fT : w0.heap.size ≤ U.T
  fs : w0.heap.size ≤ U.sb
  fm : ∀ v, v < k → w0.heap.size ≤ U.mb v ∧ U.T < U.mb v ∧ U.sb < U.mb v
theorem utp_step {w w1 : World} {T sb n k : Nat} {mb : Nat → Nat} (h : UTp w w1 ⟨T, sb, mb⟩ n k) (hk : k < n) : UTp w ((w1.setCell ⟨sb, k, none⟩ (.map (some w1.heap.size))).alloc (.map #[] 0)) ⟨T, sb, fun v => if v = k then w1.heap.size else mb v⟩ n (k + 1) := by
  obtain ⟨cs, hB, hcs, hck⟩ := h.s
  have hTl : T < w1.heap.size := h.t.lt
  have hSl : sb < w1.heap.size := hB.lt
  have hne : sb ≠ T := fun e => by
    have h1 := h.t
    simp only at h1 hB
    rw [← e] at h1
    have := (hB.inj h1).1
    revert this
    decide
  have hf : Frm (fun x => x = sb) w1 ((w1.setCell ⟨sb, k, none⟩ (.map (some w1.heap.size))).alloc (.map #[] 0)) := ((Frm.refl (fun x => x = sb) w1).set k _ rfl).alloc _
  refine ⟨h.same.trans hf (fun i hi (e : i = sb) => by have := h.fs; simp only at this; omega), h.t.frm hf (fun e => hne e.symm), ⟨_, (hB.set k (.map (some w1.heap.size))).alloc _, by simp [hcs], fun v hv => ?_⟩, fun v hv => ?_, fun u v hu hv e => ?_, h.fT, h.fs, fun v hv => ?_⟩
  · by_cases e : v = k
    · subst e; simp [hcs, hk]
    · rw [Array.getElem?_setIfInBounds_ne (fun e2 => e e2.symm)]
      simp only [if_neg e]
      exact hck v (by omega)
  · by_cases e : v = k
    · simp only [if_pos e]
      have := NM.made 34 .u32 (w1.setCell ⟨sb, k, none⟩ (.map (some w1.heap.size)))
      rwa [size_setCell] at this
    · simp only [if_neg e]
      refine (h.m v (by omega)).frm hf (fun e2 => ?_)
      have := (h.fm v (by omega)).2.2
      simp only at this e2
      omega
  · have lv := fun x (hx : x < k) => (h.m x hx).lt
    simp only at e lv
    by_cases e1 : u = k <;> by_cases e2 : v = k
    · rw [e1, e2]
    · rw [if_pos e1, if_neg e2] at e; have := lv v (by omega); omega
    · rw [if_neg e1, if_pos e2] at e; have := lv u (by omega); omega
    · rw [if_neg e1, if_neg e2] at e; exact h.inj u v (by omega) (by omega) e
  · by_cases e : v = k
    · simp only [if_pos e]
      exact ⟨h.same.size, hTl, hSl⟩
    · simp only [if_neg e]
      exact h.fm v (by omega)
set_option maxRecDepth 100000 in
set_option maxHeartbeats 4000000 in
theorem uqnew_any (n : Nat) (h1 : 1 ≤ n) (h2 : n ≤ 64) (w : World) :
    Calls Try.prog 9 #[.int .i64 n] w fun e w' => ∃ U, e = .returned (.tuple #[.pointer (some ⟨U.T, 0, none⟩), .int .i64 0]) ∧ Same w w' ∧ UT w' U n [] ∧ w.heap.size ≤ U.T ∧ w.heap.size ≤ U.sb ∧ ∀ v, v < n → w.heap.size ≤ U.mb v := by
  have h3 : ¬ (n : Int) < 1 := by omega
  have h4 : ¬ (64 : Int) < n := by omega
  have hmk := fun w => run_make_n (P := Try.prog) Try.underlying61 info_nmap .i64 .i64 n (by omega) (by omega) w
  have hmm := @run_makeMap Try.prog
  go_enter Try.func9, Try.ntmps9
  go_upto_region 4 with fail
  refine wp_world fun w1 hw1 => ?_
  have hs1 : Same w w1 := by rw [hw1]; exact ((Frm.refl _ _).alloc _).alloc _
  have hT : Blk w1 (w.heap.size + 1) 63 #[.slice (some ⟨w.heap.size, 0, none⟩) n n] := by
    rw [hw1]
    have := Blk.new (w.alloc (.cells (madeCells #[.map none] n) 64)) 63 #[.slice (some ⟨w.heap.size, 0, none⟩) n n]
    rwa [World.size_alloc] at this
  have hS : Blk w1 w.heap.size 64 (madeCells #[.map none] n) := by rw [hw1]; exact (Blk.new _ _ _).alloc _
  have hsz : (madeCells #[.map none] n).size = n := by simp [madeCells]
  have h0 := Lib.hid (show UTp w w1 ⟨w.heap.size + 1, w.heap.size, fun _ => 0⟩ n 0 from ⟨hs1, hT, ⟨_, hS, hsz, fun v hv => absurd hv (Nat.not_lt_zero v)⟩, fun v hv => absurd hv (Nat.not_lt_zero v), fun u v hu => absurd hu (Nat.not_lt_zero u), Nat.le_succ _, Nat.le_refl _, fun v hv => absurd hv (Nat.not_lt_zero v)⟩)
  clear hs1 hT hS hsz hw1 hmk
  obtain ⟨T, hT⟩ : ∃ T, T = w.heap.size + 1 := ⟨_, rfl⟩
  obtain ⟨sb, hsb⟩ : ∃ T, T = w.heap.size := ⟨_, rfl⟩
  rw [← hT, ← hsb] at h0 ⊢
  clear hT hsb
  go_wp2
  go_loopw [17] (fun i wr => ∃ (k : Nat) (mb : Nat → Nat), i = .int .i64 k ∧ k ≤ n ∧ UTp w wr ⟨T, sb, mb⟩ n k) (fun i _ => n - (intOf i).toNat)
  case atStart => exact ⟨0, _, rfl, Nat.zero_le _, h0.out⟩
  case round =>
    clear h0
    obtain ⟨k, mb, rfl, hk, hp⟩ := hrel
    by_cases hlt : k < n
    · have hk0 : (0 : Int) ≤ k := by omega
      have hk1 : (k : Int) < n := by omega
      have HP := Lib.hid hp
      have cT : wr.cell? ⟨T, 0, none⟩ = some (.slice (some ⟨sb, 0, none⟩) n n) := hp.t.cell 0
      have lT : T < wr.heap.size := hp.t.lt
      obtain ⟨cs, hB, hcs, hck⟩ := hp.s
      simp only at hB
      have lS : sb < wr.heap.size := hB.lt
      have fS : wr.frozen? ⟨sb, k, none⟩ = false := hB.free k
      obtain ⟨u, hu⟩ : ∃ u, cs[k]? = some u := ⟨_, Array.getElem?_eq_getElem (by rw [hcs]; exact hlt)⟩
      have cS : wr.cell? ⟨sb, k, none⟩ = some u := (hB.cell k).trans hu
      have HB := Lib.hid hB
      have HC := Lib.hid hck
      have HCS := Lib.hid hcs
      clear hB hcs hck hu hp
      go_wp2
      go_roundw
      case rel => exact ⟨k + 1, _, by go_num, hlt, utp_step HP.out hlt⟩
      case measure => simp [intOf] <;> omega
    · obtain rfl : k = n := by omega
      obtain ⟨cs, hB, hcs, hck⟩ := hp.s
      have hU : UT wr ⟨T, sb, mb⟩ k [] := ⟨⟨h1, h2⟩, hp.t, fun v hv => (hB.cell v).trans (hck v hv), hB.lt, fun v hv => hp.m v hv, hp.inj, fun v hv => ⟨Nat.ne_of_gt (hp.fm v hv).2.1, Nat.ne_of_gt (hp.fm v hv).2.2⟩, by simp, List.nodup_nil⟩
      have HU := Lib.hid hU
      have HP := Lib.hid hp
      clear hU hp hB hcs hck
      go_wp2
      go_ret2
      exact ⟨⟨T, sb, mb⟩, rfl, HP.out.same, HU.out, HP.out.fT, HP.out.fs, fun v hv => (HP.out.fm v hv).1⟩
end Go.Proofs.Ytkelbbalffijbaa


/- slices.Sort at u32, laid at this seat. -/
namespace Go.Proofs.Ytkelbbalffijbaa
open Go.RowKit Go.Sort Go.Shelf
def Try.usort_ren : Go.Shelf.Ren := ⟨fun | 5 => 29 | 8 => 33 | 7 => 32 | 19 => 43 | 20 => 44 | 10 => 34 | 11 => 35 | 12 => 36 | 13 => 37 | 14 => 38 | 15 => 39 | 16 => 40 | 17 => 41 | 18 => 42 | 30 => 45 | 31 => 46 | 32 => 47 | 33 => 48 | 34 => 49 | 35 => 50 | 40 => 51 | n => n, fun | 23 => 47 | 25 => 34 | 3 => 3 | 32 => 82 | 22 => 47 | 0 => 0 | 44 => 33 | 46 => 94 | 4 => 4 | 36 => 85 | 35 => 84 | 41 => 90 | 5 => 5 | 9 => 9 | 53 => 95 | 57 => 99 | 63 => 101 | 64 => 102 | n => n, fun | n => n⟩
theorem Try.usort : Go.Proofs.Ytkelbbalffijbaa.SlW32.n5 Try.prog Try.usort_ren := {
  mixed := by kernel_rfl
  f5 := ⟨Try.f29.name, by decide, Try.func29.trans (congrArg some (by kernel_rfl))⟩
  f7 := ⟨Try.f32.name, by decide, Try.func32.trans (congrArg some (by kernel_rfl))⟩
  f8 := Try.func33.trans (congrArg some (by kernel_rfl))
  f10 := ⟨Try.f34.name, by decide, Try.func34.trans (congrArg some (by kernel_rfl))⟩
  f11 := ⟨Try.f35.name, by decide, Try.func35.trans (congrArg some (by kernel_rfl))⟩
  f12 := ⟨Try.f36.name, by decide, Try.func36.trans (congrArg some (by kernel_rfl))⟩
  f13 := ⟨Try.f37.name, by decide, Try.func37.trans (congrArg some (by kernel_rfl))⟩
  f14 := ⟨Try.f38.name, by decide, Try.func38.trans (congrArg some (by kernel_rfl))⟩
  f15 := ⟨Try.f39.name, by decide, Try.func39.trans (congrArg some (by kernel_rfl))⟩
  f16 := ⟨Try.f40.name, by decide, Try.func40.trans (congrArg some (by kernel_rfl))⟩
  f17 := ⟨Try.f41.name, by decide, Try.func41.trans (congrArg some (by kernel_rfl))⟩
  f18 := ⟨Try.f42.name, by decide, Try.func42.trans (congrArg some (by kernel_rfl))⟩
  f19 := Try.func43.trans (congrArg some (by kernel_rfl))
  f20 := Try.func44.trans (congrArg some (by kernel_rfl))
  f30 := ⟨Try.f45.name, by decide, Try.func45.trans (congrArg some (by kernel_rfl))⟩
  f31 := Try.func46.trans (congrArg some (by kernel_rfl))
  f32 := Try.func47.trans (congrArg some (by kernel_rfl))
  f33 := ⟨Try.f48.name, by decide, Try.func48.trans (congrArg some (by kernel_rfl))⟩
  f34 := ⟨Try.f49.name, by decide, Try.func49.trans (congrArg some (by kernel_rfl))⟩
  f35 := ⟨Try.f50.name, by decide, Try.func50.trans (congrArg some (by kernel_rfl))⟩
  f40 := ⟨Try.f51.name, by decide, Try.func51.trans (congrArg some (by kernel_rfl))⟩
  t0 := Try.underlying0
  a0 := Try.isAgg0
  z0 := Try.sizeOf0
  v0 := Try.zeroValue0
  t3 := Try.underlying3
  a3 := Try.isAgg3
  z3 := Try.sizeOf3
  v3 := Try.zeroValue3
  t4 := Try.underlying4
  a4 := Try.isAgg4
  z4 := Try.sizeOf4
  v4 := Try.zeroValue4
  t5 := Try.underlying5
  a5 := Try.isAgg5
  z5 := Try.sizeOf5
  v5 := Try.zeroValue5
  t9 := Try.underlying9
  a9 := Try.isAgg9
  z9 := Try.sizeOf9
  v9 := Try.zeroValue9
  t22 := Try.underlying47
  a22 := Try.isAgg47
  z22 := Try.sizeOf47
  v22 := Try.zeroValue47
  t23 := Try.underlying47
  a23 := Try.isAgg47
  z23 := Try.sizeOf47
  v23 := Try.zeroValue47
  t25 := Try.underlying34
  a25 := Try.isAgg34
  z25 := Try.sizeOf34
  v25 := Try.zeroValue34
  t32 := Try.underlying82
  a32 := Try.isAgg82
  z32 := Try.sizeOf82
  v32 := Try.zeroValue82
  t35 := Try.underlying84
  a35 := Try.isAgg84
  z35 := Try.sizeOf84
  v35 := Try.zeroValue84
  t36 := Try.underlying85
  a36 := Try.isAgg85
  z36 := Try.sizeOf85
  v36 := Try.zeroValue85
  t41 := Try.underlying90
  a41 := Try.isAgg90
  z41 := Try.sizeOf90
  v41 := Try.zeroValue90
  t44 := Try.underlying33
  a44 := Try.isAgg33
  z44 := Try.sizeOf33
  v44 := Try.zeroValue33
  t46 := Try.underlying94
  a46 := Try.isAgg94
  z46 := Try.sizeOf94
  v46 := Try.zeroValue94
  t53 := Try.underlying95
  a53 := Try.isAgg95
  z53 := Try.sizeOf95
  v53 := Try.zeroValue95
  t57 := Try.underlying99
  a57 := Try.isAgg99
  z57 := Try.sizeOf99
  v57 := Try.zeroValue99
  t63 := Try.underlying101
  a63 := Try.isAgg101
  z63 := Try.sizeOf101
  v63 := Try.zeroValue101
  t64 := Try.underlying102
  a64 := Try.isAgg102
  z64 := Try.sizeOf102
  v64 := Try.zeroValue102 }
end Go.Proofs.Ytkelbbalffijbaa


/- maps.Values over a map of nodes; slices.Sorted of it. -/
namespace Go.Proofs.Ytkelbbalffijbaa
open Go.RowKit Go.Tk Go.Maps Go.Sort Go.Shelf

structure CollN (D : DataW Unit) (left : Lit → Bool) (ps : List Ent) : Prop where
  nd : (keys ps).Nodup
  mem : ∀ n : Nd, n.ok → (n ∈ keys ps ↔ Maps.has D n.key = true ∧ left n.key = false)
  val : ∀ p ∈ ps, p.1.ok ∧ ∀ zd, D.atKey p.1.key zd = .lit (.int .u32 p.2)
theorem CollN.start (D : DataW Unit) : CollN D (Maps.has D) [] := ⟨List.nodup_nil, fun n _ => by cases Maps.has D n.key <;> simp [keys], by simp⟩
theorem CollN.step {D : DataW Unit} {left : Lit → Bool} {ps : List Ent} (h : CollN D left ps) {n : Nd} {c : Int} (hn : n.ok) (hlk : left n.key = true) (hat : ∀ zd, D.atKey n.key zd = .lit (.int .u32 c)) : CollN D (fun z => left z && !z.sameKey n.key) (ps ++ [(n, c)]) := by
  have hhas : Maps.has D n.key = true := has_true_of_atKey hat
  have hnew : n ∉ keys ps := fun hx => by have := ((h.mem n hn).1 hx).2; rw [hlk] at this; cases this
  have hk : keys (ps ++ [(n, c)]) = keys ps ++ [n] := by simp [keys]
  refine ⟨?_, fun m hm => ?_, fun p hp => ?_⟩
  · rw [hk, List.nodup_append]
    exact ⟨h.nd, by simp, fun a ha b hb e => hnew (by simp at hb; rw [← hb, ← e]; exact ha)⟩
  · rw [hk, List.mem_append, List.mem_singleton]
    by_cases e : m = n
    · subst e
      have hsk : m.key.sameKey m.key = true := by simp [Nd.key, Lit.sameKey]
      rw [hsk, hhas]; simp
    · rw [sameKey_ne (fun e2 => e (nd_key_inj hm hn e2)), h.mem m hm]
      simp [e]
  · rcases List.mem_append.1 hp with hp | hp
    · exact h.val p hp
    · obtain rfl := List.mem_singleton.1 hp
      exact ⟨hn, hat⟩
theorem nodup_of_keys {L : List Ent} (h : (keys L).Nodup) : L.Nodup := by
  induction L with
  | nil => exact List.nodup_nil
  | cons a L ih =>
    obtain ⟨h1, h2⟩ := List.nodup_cons.1 (show (a.1 :: keys L).Nodup from h)
    exact List.nodup_cons.2 ⟨fun hm => h1 (List.mem_map_of_mem hm), ih h2⟩
theorem CollN.perm {D : DataW Unit} {left : Lit → Bool} {ps L : List Ent} (h : CollN D left ps) (hr : NRel .u32 D L) (hl : ∀ kl, left kl = false) : ps.Perm L := by
  refine (List.perm_ext_iff_of_nodup (nodup_of_keys h.nd) (nodup_of_keys hr.nd)).2 fun p => ⟨fun hp => ?_, fun hp => ?_⟩
  · obtain ⟨h1, h2⟩ := h.val p hp
    have hk := ((h.mem p.1 h1).1 (List.mem_map_of_mem hp)).1
    obtain ⟨r, hm⟩ := mem_keys.1 ((hr.dom p.1 h1).1 hk)
    have h3 := hr.val _ hm (.lit (.int .u32 0))
    rw [h2] at h3
    have := dlit_inj h3
    rw [show p = (p.1, p.2) from rfl, this]
    exact hm
  · obtain ⟨h1, h2⟩ := hr.ok p hp
    have hk := (hr.dom p.1 h1).2 (List.mem_map_of_mem hp)
    obtain ⟨r, hm⟩ := mem_keys.1 ((h.mem p.1 h1).2 ⟨hk, hl _⟩)
    have h3 := (h.val _ hm).2 (.lit (.int .u32 0))
    rw [hr.val p hp] at h3
    have := dlit_inj h3
    rw [show p = (p.1, p.2) from rfl, this]
    exact hm
set_option maxRecDepth 100000 in
set_option maxHeartbeats 1000000 in
theorem vals1_in (F : Fence) (n : Nat) (h8 : F.fn 30) (hro : F.round = none) (hn : 1 ≤ n) (l Bm b : Nat) (L : List Ent) (J : List Int → World → Prop)
    (hY : ∀ pre x W, J pre W → pre.length < L.length → YieldAt F (n - 1) Try.prog l #[.int .u32 x] W fun e W' => e = .returned (.bool true) ∧ J (pre ++ [x]) W' ∧ KeepsWalks W W')
    (W : World) (hJ : AbidesFrom W.heap.size J) (hm : W.cell? ⟨Bm, 0, none⟩ = some (.map (some b))) (hown : NM 34 .u32 W b L) (h0 : J [] W) :
    CallsIn F n Try.prog 30 #[.func (.yield l) #[] #[], .pointer (some ⟨Bm, 0, none⟩)] W fun e W' => (∃ v, e = .returned v) ∧ ∃ ps : List Ent, ps.Perm L ∧ J (ps.map (·.2)) W' := by
  obtain ⟨D0, hown, hrel0⟩ := hown
  have hsz : Maps.size D0 = L.length := hrel0.size
  rw [← hsz] at hY
  clear hsz
  refine callsIn_of_wp Try.func30 rfl h8 ?_ hro
  simp only [Try.ntmps30, List.size_toArray, List.length_cons, List.length_nil, Nat.reduceAdd, Nat.reduceSub, Array.replicate_succ, Array.replicate_zero, List.push_toArray, List.append_toArray, List.nil_append, List.cons_append]
  gi_wp2_with (first
    | (gi_at_range; refine wpListIn_range_own _ rfl _ 64 rfl 36 34 KN Try.underlying64 _ b _ _ rfl hown ?_; intro w0 hrg0 hg0 hs0)
    | gi_in)
  go_frame
  gi_loopw [4] (fun _ wr => ∃ (left : Lit → Bool) (cnt : Nat) (ps : List Ent), wr.ranges Try.prog 36 (refR 34) b W.heap.size L.length D0 left cnt ∧ ps.length + cnt ≤ Maps.size D0 ∧ CollN D0 left ps ∧ J (ps.map (·.2)) wr)
    (fun _ wr => wr.rangeLeft b W.heap.size)
  case atStart =>
    exact ⟨_, _, [], hrg0, by simp, CollN.start D0, hJ [] W w0 none h0 hg0 (fun r e => by cases e)⟩
  case round =>
    obtain ⟨left, cnt, ps, hrg, hcs, hC, hJs⟩ := hrel
    gi_wp2_with (first
      | (gi_at_next; refine wpListIn_next_ranges _ rfl _ rfl 36 KN (refR 34) Nd.val (Value.int .u32) (fun key kl hk => by obtain ⟨x, _, hx, _⟩ := nd_key_inv hk; exact ⟨x, hx⟩) (fun v y hv => by obtain ⟨c, rfl, _⟩ := plainElem_int_inv Try.underlying34 hv; exact ⟨c, rfl⟩) b W.heap.size L.length _ _ _ rfl hrg ?_ ?_)
      | gi_in)
    · intro hc0 hl0
      gi_wp2
      go_end0
      exact ⟨⟨_, rfl⟩, ps, hC.perm hrel0 hl0, hJs⟩
    · intro x c kl yd yp w2 cnt2 hkey hlk hv hat hrg2 hlt hg2 hs2 hen
      obtain ⟨x', hxo, ex, rfl⟩ := nd_key_inv hkey
      obtain rfl : x = x' := by cases x; cases x'; simpa [Nd.val] using ex
      obtain ⟨c', ec, ez, _⟩ := plainElem_int_inv Try.underlying34 hv
      obtain rfl : c = c' := by simpa using ec
      obtain rfl : yd = .lit (.int .u32 c) := (Prod.mk.inj ez).1
      have hJ2 : J (ps.map (·.2)) w2 := hJ _ wr w2 (some W.heap.size) hJs hg2 (fun r e => by cases e; exact ⟨Nat.le_refl _, hrg.iter_walk⟩)
      obtain ⟨fn, tmps, assign, body, hy, hR⟩ := hY (ps.map (·.2)) c w2 hJ2 (by simp <;> omega)
      clear hs2
      gi_wp2
      refine hR.mono ?_
      have hC2 := hC.step hxo hlk hat
      rintro e W3 ⟨rfl, hJ3, hk3⟩
      gi_wp2
      have hrg3 := hrg2.of_walks hk3
      go_roundw
      case rel => exact ⟨_, cnt2, ps ++ [(x, c)], hrg3, by simp <;> omega, hC2, by simpa using hJ3⟩
      case measure => rw [hrg3.left_eq, hrg.left_eq]; exact hlt
end Go.Proofs.Ytkelbbalffijbaa


/- slices.Sorted at u32, laid at this seat. -/
namespace Go.Proofs.Ytkelbbalffijbaa
open Go.RowKit Go.Sort Go.Shelf
def Try.usorted_ren : Go.Shelf.Ren := ⟨fun | 6 => 24 | 8 => 28 | 9 => 29 | 11 => 31 | 13 => 33 | 12 => 32 | 23 => 43 | 24 => 44 | 14 => 34 | 15 => 35 | 16 => 36 | 17 => 37 | 18 => 38 | 19 => 39 | 20 => 40 | 21 => 41 | 22 => 42 | 25 => 45 | 26 => 46 | 27 => 47 | 28 => 48 | 29 => 49 | 30 => 50 | 31 => 51 | n => n, fun | 26 => 34 | 28 => 71 | 24 => 47 | 0 => 0 | 3 => 3 | 37 => 82 | 48 => 33 | 50 => 94 | 4 => 4 | 40 => 85 | 39 => 84 | 45 => 90 | 5 => 5 | 9 => 9 | 51 => 95 | 55 => 99 | 57 => 101 | 58 => 102 | 33 => 78 | n => n, fun | n => n⟩
theorem Try.usorted : Go.Proofs.Ytkelbbalffijbaa.SlZ32.n6 Try.prog Try.usorted_ren := {
  mixed := by kernel_rfl
  f6 := ⟨Try.f24.name, by decide, Try.func24.trans (congrArg some (by kernel_rfl))⟩
  f8 := ⟨Try.f28.name, by decide, Try.func28.trans (congrArg some (by kernel_rfl))⟩
  f11 := ⟨Try.f31.name, by decide, Try.func31.trans (congrArg some (by kernel_rfl))⟩
  t0 := Try.underlying0
  a0 := Try.isAgg0
  z0 := Try.sizeOf0
  v0 := Try.zeroValue0
  t24 := Try.underlying47
  a24 := Try.isAgg47
  z24 := Try.sizeOf47
  v24 := Try.zeroValue47
  t26 := Try.underlying34
  a26 := Try.isAgg34
  z26 := Try.sizeOf34
  v26 := Try.zeroValue34
  t28 := Try.underlying71
  a28 := Try.isAgg71
  z28 := Try.sizeOf71
  v28 := Try.zeroValue71
  i26 := by kernel_rfl }
end Go.Proofs.Ytkelbbalffijbaa


/- The unique table: Refs. -/
namespace Go.Proofs.Ytkelbbalffijbaa
open Go.RowKit Go.Tk Go.Maps Go.Sort Go.Shelf

theorem vals_gives (F : Fence) (n : Nat) (h8 : F.fn 30) (hro : F.round = none) (hn : 1 ≤ n) (Bm b : Nat) (L : List Ent) (w : World) (hBm : Bm < w.heap.size) (hm : w.cell? ⟨Bm, 0, none⟩ = some (.map (some b))) (hown : NM 34 .u32 w b L) :
    SeqGives F n Try.prog 30 #[.pointer (some ⟨Bm, 0, none⟩)] encU (fun ss => ∃ ps : List Ent, ps.Perm L ∧ ss = ps.map (·.2)) L.length w := fun l J W hW hJ hY h0 => by
  have hown' : NM 34 .u32 W b L := by
    have hbl := hown.lt
    obtain ⟨D, h1, h2⟩ := hown
    obtain ⟨es, clock, hb, Ft, hs, hD⟩ := h1
    exact ⟨D, ⟨es, clock, (hW.block b hbl).trans hb, Ft, hs, hD⟩, h2⟩
  refine (vals1_in F n h8 hro hn l Bm b L J hY W hJ ((hW.cell (p := ⟨Bm, 0, none⟩) hBm).trans hm) hown' h0).mono ?_
  rintro e W' ⟨hv, ps, hp, hJ'⟩
  exact ⟨hv, _, ⟨ps, hp, rfl⟩, hJ'⟩
set_option maxHeartbeats 1000000 in
theorem vals_in (F : Fence) (n : Nat) (hf : F.fn 25) (hro : F.round = none) (mb : Option Nat) (w : World) :
    CallsIn F n Try.prog 25 #[.map mb] w fun e w' => e = .returned (.func (.func 30) #[] #[.pointer (some ⟨w.heap.size, 0, none⟩)]) ∧ w' = w.alloc (.cells #[.map mb] 64) := by
  refine callsIn_of_wp Try.func25 rfl hf ?_ hro
  simp only [Try.ntmps25, List.size_toArray, List.length_cons, List.length_nil, Nat.reduceAdd, Nat.reduceSub, Array.replicate_succ, Array.replicate_zero, List.push_toArray, List.append_toArray, List.nil_append, List.cons_append]
  gi_wp2
  go_ret
  exact ⟨rfl, rfl⟩
theorem usorts (m : Nat) : AnyZU.SortsIn Try.prog Try.usorted_ren Fence.wide m :=
  ⟨fun blk off cap ss W hH hblk hsz => callsIn_wide.2 (AnyU.slices_Sort_int Try.usort blk off cap ss W hH hblk hsz),
   fun p cap W => callsIn_wide.2 (AnyU.slices_Sort_int_none Try.usort p cap W)⟩
/-- the numbers of a list of entries, rising -/
def rising (L : List Ent) : List Int := (L.map (·.2)).mergeSort fun x y => decide (x ≤ y)
theorem rising_perm {L L' : List Ent} (h : L.Perm L') : rising L = rising L' := by
  unfold rising
  have tr : ∀ a b c : Int, decide (a ≤ b) = true → decide (b ≤ c) = true → decide (a ≤ c) = true := by
    intro a b c h1 h2; simp at h1 h2 ⊢; omega
  have tot : ∀ a b : Int, (decide (a ≤ b) || decide (b ≤ a)) = true := by
    intro a b; simp <;> omega
  refine List.Perm.eq_of_pairwise (le := fun a b => decide (a ≤ b) = true) ?_ (List.pairwise_mergeSort tr tot _) (List.pairwise_mergeSort tr tot _) ?_
  · intro a b _ _ h1 h2; simp at h1 h2; omega
  · exact ((List.mergeSort_perm _ _).trans (h.map _)).trans (List.mergeSort_perm _ _).symm
theorem rising_len (L : List Ent) : (rising L).length = L.length := by unfold rising; rw [List.length_mergeSort, List.length_map]
/-- a new slice of Refs that holds the list -/
def NewU (lo : Nat) (w' : World) (v : Value) (xs : List Int) : Prop := ∃ A C, v = .slice A xs.length C ∧ Row1 w' 34 (Value.int .u32) A xs.length C xs ∧ Fresh lo A ∧ (xs = [] ↔ A = none)
theorem newU_of {lo : Nat} {w' : World} {v : Value} {xs : List Int} (h : w'.ownsRow lo 34 1 v xs.length (xs.map encU)) (hn : v = .slice none 0 0 ↔ xs = []) : NewU lo w' v xs := by
  have h0 := ownsRow_base_a h (Nat.zero_le lo)
  rcases h.2 with ⟨rfl, hz⟩ | ⟨g, cap, cur, rfl, hb, hg, _⟩
  · obtain rfl := List.eq_nil_of_length_eq_zero hz
    exact ⟨none, 0, rfl, Own.nil _ _ _ _, fresh_none _, by simp⟩
  · refine ⟨some ⟨g, 0, none⟩, cap, rfl, ⟨rfl, ?_⟩, fresh_some hb, ?_⟩
    · rw [flat1]; exact h0
    · simp at hn ⊢; exact fun h => hn h
set_option maxRecDepth 100000 in
set_option maxHeartbeats 1000000 in
/-- slices.Sorted(maps.Values(m)) -/
theorem sortedvals_any (b : Nat) (L : List Ent) (w : World) (hm : NM 34 .u32 w b L) (hmax : L.length * 4 ≤ 140737488355328) :
    ∃ w1, w1 = w.alloc (.cells #[.map (some b)] 64) ∧ Calls Try.prog 24 #[.func (.func 30) #[] #[.pointer (some ⟨w.heap.size, 0, none⟩)]] w1 fun e w' => ∃ v, e = .returned v ∧ NewU w.heap.size w' v (rising L) ∧ Same w w' := by
  obtain ⟨w1, hw1⟩ : ∃ z, z = w.alloc (.cells #[.map (some b)] 64) := ⟨_, rfl⟩
  have hs1 : Same w w1 := by rw [hw1]; exact (Frm.refl _ _).alloc _
  have hX : Blk w1 w.heap.size 64 #[.map (some b)] := by rw [hw1]; exact Blk.new _ _ _
  have hseq := vals_gives Fence.wide (5 - 1 - 1 - 1) trivial rfl (by omega) w.heap.size b L w1 hX.lt (hX.cell 0) (hm.frm hs1 id)
  have cS := AnyZU.sorted_in Try.usorted Fence.wide 5 trivial trivial trivial trivial rfl (by omega) (usorts _) (enters_of Try.func29 (by kernel_rfl) rfl) 30 #[.pointer (some ⟨w.heap.size, 0, none⟩)] trivial (enters_of Try.func30 (by kernel_rfl) rfl) _ _ (by show L.length ≤ 9223372036854775807; omega) hmax w1 hseq
  refine ⟨w1, hw1, (callsIn_wide.1 cS).mono ?_⟩
  rintro e w' ⟨v, ss, rfl, ⟨ps, hp, rfl⟩, hrow, hnil, hb⟩
  have hsz : w.heap.size ≤ w1.heap.size := hs1.size
  have hlen : (rising ps).length = (ps.map (·.2)).length := by rw [rising_len, List.length_map]
  refine ⟨v, rfl, ?_, hs1.trans (Frm.of_below hb _) (fun _ _ h => h)⟩
  rw [← rising_perm hp]
  have hrow' : w'.ownsRow w.heap.size 34 1 v (rising ps).length ((rising ps).map encU) := by
    rw [hlen]; exact ownsRow_base_a hrow hsz
  refine newU_of hrow' ?_
  rw [hnil]
  constructor
  · intro h; rw [List.map_eq_nil_iff] at h; subst h; simp [rising]
  · intro h; rw [List.map_eq_nil_iff]; exact List.eq_nil_of_length_eq_zero (by rw [← rising_len, h]; rfl)
set_option maxRecDepth 100000 in
set_option maxHeartbeats 1000000 in
theorem uqrefs_any (U : UTab) (vars : Nat) (L : List Ent) (v : Nat) (hv : v < vars) (w : World) (h : UT w U vars L) (hmax : L.length * 4 ≤ 140737488355328) :
    Calls Try.prog 14 #[.pointer (some ⟨U.T, 0, none⟩), .int .i64 v] w fun e w' => ∃ x, e = .returned (.tuple #[x, .int .i64 0]) ∧ NewU w.heap.size w' x (rising (ofv L v)) ∧ Same w w' := by
  have HC := Lib.hid (uqcheck_any U vars L v w h)
  have ct : w.cell? ⟨U.T, 0, none⟩ = some (.slice (some ⟨U.sb, 0, none⟩) vars vars) := h.t.cell 0
  have lt := h.t.lt
  have hE : vErr vars v = 0 := if_pos ⟨by omega, by omega⟩
  have cs := h.s v hv
  have ls := h.sl
  have hk0 : (0 : Int) ≤ v := by omega
  have hk1 : (v : Int) < vars := by omega
  have hlen : (ofv L v).length * 4 ≤ 140737488355328 := by
    have := List.length_filter_le (fun p : Ent => decide (p.1.v = (v : Int))) L
    have h2 : (ofv L v).length ≤ L.length := this
    omega
  obtain ⟨w1, hw1, hS⟩ := sortedvals_any (U.mb v) (ofv L v) w (h.m v hv) hlen
  have HS := Lib.hid hS
  have HV := Lib.hid (fun w => callsIn_wide.1 (vals_in Fence.wide 5 trivial rfl (some (U.mb v)) w))
  rw [hE] at HC
  clear h hE hv hlen hmax hS
  go_enter Try.func14, Try.ntmps14
  go_wp2_with (fail)
  refine HC.out.mono ?_
  rintro e w2 ⟨rfl, rfl⟩
  clear HC
  go_wp2_with (fail)
  refine (HV.out _).mono ?_
  rintro e w3 ⟨rfl, hw3⟩
  rw [← hw1] at hw3
  subst hw3
  clear hw1 HV
  go_wp2_with (fail)
  refine HS.out.mono ?_
  rintro e w4 ⟨x, rfl, hx, hs⟩
  have HX := Lib.hid hx
  have HW := Lib.hid hs
  clear hx hs HS
  go_wp2
  go_ret2
  exact ⟨x, rfl, HX.out, HW.out⟩
set_option maxRecDepth 100000 in
theorem uqrefs_out (U : UTab) (vars : Nat) (L : List Ent) (v : Int) (hv : ¬ (0 ≤ v ∧ v < vars)) (w : World) (h : UT w U vars L) :
    Calls Try.prog 14 #[.pointer (some ⟨U.T, 0, none⟩), .int .i64 v] w fun e w' => e = .returned (.tuple #[.slice none 0 0, .int .i64 2]) ∧ w' = w := by
  have HC := Lib.hid (uqcheck_any U vars L v w h)
  rw [show vErr vars v = 2 from if_neg hv] at HC
  clear h hv
  go_enter Try.func14, Try.ntmps14
  go_wp2_with (fail)
  refine HC.out.mono ?_
  rintro e w2 ⟨rfl, rfl⟩
  clear HC
  go_wp2
  go_ret2
  exact ⟨rfl, rfl⟩
set_option maxRecDepth 100000 in
theorem uqrefs_nil (v : Int) (w : World) :
    Calls Try.prog 14 #[.pointer none, .int .i64 v] w fun e w' => e = .returned (.tuple #[.slice none 0 0, .int .i64 10]) ∧ w' = w := by
  have HC := Lib.hid (uqcheck_nil v w)
  go_enter Try.func14, Try.ntmps14
  go_wp2_with (fail)
  refine HC.out.mono ?_
  rintro e w2 ⟨rfl, rfl⟩
  clear HC
  go_wp2
  go_ret2
  exact ⟨rfl, rfl⟩
set_option maxRecDepth 100000 in
theorem uqadd_nil (n : Nd) (r : Int) (w : World) : Calls Try.prog 15 #[.pointer none, n.val, .int .u32 r] w fun e w' => e = .returned (.int .i64 10) ∧ Same w w' := by
  obtain ⟨w1, hw1⟩ : ∃ z, z = w.alloc (.cells #[.int .i64 n.v, .int .u32 n.lo, .int .u32 n.hi] 36) := ⟨_, rfl⟩
  have hs1 : Same w w1 := by rw [hw1]; exact (Frm.refl _ _).alloc _
  have hX : Blk w1 w.heap.size 36 #[.int .i64 n.v, .int .u32 n.lo, .int .u32 n.hi] := by rw [hw1]; exact Blk.new _ _ _
  obtain ⟨X, hXX⟩ : ∃ z, z = w.heap.size := ⟨_, rfl⟩
  rw [← hXX] at hX
  have cX0 : w1.cell? ⟨X, 0, none⟩ = some (.int .i64 n.v) := hX.cell 0
  have HS1 := Lib.hid hs1
  have HC := Lib.hid (uqcheck_nil n.v w1)
  clear hs1 hX
  obtain ⟨nv, nlo, nhi⟩ := n
  simp only [Nd.val] at *
  go_enter Try.func15, Try.ntmps15
  go_wp2_with (fail)
  rw [← hXX, ← hw1]
  refine HC.out.mono ?_
  rintro e w2 ⟨rfl, rfl⟩
  clear hw1 hXX HC
  go_wp2
  go_ret
  exact ⟨rfl, HS1.out⟩
set_option maxRecDepth 100000 in
theorem uqrem_nil (n : Nd) (w : World) : Calls Try.prog 16 #[.pointer none, n.val] w fun e w' => e = .returned (.int .i64 10) ∧ Same w w' := by
  obtain ⟨w1, hw1⟩ : ∃ z, z = w.alloc (.cells #[.int .i64 n.v, .int .u32 n.lo, .int .u32 n.hi] 36) := ⟨_, rfl⟩
  have hs1 : Same w w1 := by rw [hw1]; exact (Frm.refl _ _).alloc _
  have hX : Blk w1 w.heap.size 36 #[.int .i64 n.v, .int .u32 n.lo, .int .u32 n.hi] := by rw [hw1]; exact Blk.new _ _ _
  obtain ⟨X, hXX⟩ : ∃ z, z = w.heap.size := ⟨_, rfl⟩
  rw [← hXX] at hX
  have cX0 : w1.cell? ⟨X, 0, none⟩ = some (.int .i64 n.v) := hX.cell 0
  have HS1 := Lib.hid hs1
  have HC := Lib.hid (uqcheck_nil n.v w1)
  clear hs1 hX
  obtain ⟨nv, nlo, nhi⟩ := n
  simp only [Nd.val] at *
  go_enter Try.func16, Try.ntmps16
  go_wp2_with (fail)
  rw [← hXX, ← hw1]
  refine HC.out.mono ?_
  rintro e w2 ⟨rfl, rfl⟩
  clear hw1 hXX HC
  go_wp2
  go_ret
  exact ⟨rfl, HS1.out⟩
end Go.Proofs.Ytkelbbalffijbaa


/- The reference's table of nodes: DocRefs. -/
namespace Go.Proofs.Ytkelbbalffijbaa
open Go.RowKit Go.Tk Go.Maps

def sortI (l : List Int) : List Int := l.mergeSort fun x y => decide (x ≤ y)
theorem leTr : ∀ a b c : Int, decide (a ≤ b) = true → decide (b ≤ c) = true → decide (a ≤ c) = true := by
  intro a b c h1 h2; simp at h1 h2 ⊢; omega
theorem leTot : ∀ a b : Int, (decide (a ≤ b) || decide (b ≤ a)) = true := by
  intro a b; simp <;> omega
theorem sortI_pw (l : List Int) : (sortI l).Pairwise fun a b => decide (a ≤ b) = true := List.pairwise_mergeSort leTr leTot l
theorem sortI_uniq {l xs : List Int} (hs : xs.Pairwise fun a b => decide (a ≤ b) = true) (hp : xs.Perm l) : xs = sortI l :=
  List.Perm.eq_of_pairwise (le := fun a b => decide (a ≤ b) = true) (fun a b _ _ h1 h2 => by simp at h1 h2; omega) hs (sortI_pw l) (hp.trans (List.mergeSort_perm _ _).symm)
theorem rising_eq (L : List Ent) : rising L = sortI (L.map (·.2)) := rfl
theorem sortI_ins {l : List Int} {x : Int} {j : Nat} (hj : j ≤ (sortI l).length) (h1 : ∀ i y, i < j → (sortI l)[i]? = some y → y ≤ x) (h2 : ∀ y, (sortI l)[j]? = some y → x < y) :
    (sortI l).take j ++ [x] ++ (sortI l).drop j = sortI (l ++ [x]) := by
  have hs := sortI_pw l
  have hp : (sortI l).Perm l := List.mergeSort_perm _ _
  generalize sortI l = xs at *
  refine sortI_uniq ?_ ?_
  · have hsplit := hs
    rw [← List.take_append_drop j xs, List.pairwise_append] at hsplit
    obtain ⟨p1, p2, p3⟩ := hsplit
    have hx1 : ∀ a ∈ xs.take j, a ≤ x := fun a ha => by
      obtain ⟨i, hi, rfl⟩ := List.getElem_of_mem ha
      rw [List.length_take] at hi
      exact h1 i _ (by omega) (by rw [List.getElem_take, List.getElem?_eq_getElem])
    have hx2 : ∀ a ∈ xs.drop j, x ≤ a := fun a ha => by
      rcases Nat.lt_or_ge j xs.length with hlt | hge
      · have h3 := h2 _ (List.getElem?_eq_getElem hlt)
        rw [List.drop_eq_getElem_cons hlt] at ha p2
        rcases List.mem_cons.1 ha with rfl | ha
        · omega
        · have := List.rel_of_pairwise_cons p2 ha
          simp at this
          omega
      · rw [List.drop_eq_nil_of_le hge] at ha; cases ha
    rw [List.pairwise_append]
    refine ⟨?_, p2, fun a ha b hb => ?_⟩
    · rw [List.pairwise_append]
      exact ⟨p1, by simp, fun a ha b hb => by simp at hb; subst hb; simpa using hx1 a ha⟩
    · rcases List.mem_append.1 ha with ha | ha
      · exact p3 a ha b hb
      · simp at ha; subst ha; simpa using hx2 b hb
  · have e1 : (xs.take j ++ [x] ++ xs.drop j).Perm (xs.take j ++ xs.drop j ++ [x]) := by
      rw [List.append_assoc, List.append_assoc]
      exact List.Perm.append_left _ List.perm_append_comm
    rw [List.take_append_drop] at e1
    exact e1.trans (hp.append_right [x])
theorem ofv_take_hit {L : List Ent} {k v : Nat} {p : Ent} (hp : L[k]? = some p) (h : p.1.v = v) : ofv (L.take (k + 1)) v = ofv (L.take k) v ++ [p] := by
  unfold ofv
  rw [List.take_add_one, hp, List.filter_append]
  simp [h]
theorem ofv_take_miss {L : List Ent} {k v : Nat} {p : Ent} (hp : L[k]? = some p) (h : p.1.v ≠ v) : ofv (L.take (k + 1)) v = ofv (L.take k) v := by
  unfold ofv
  rw [List.take_add_one, hp, List.filter_append]
  simp [h]
theorem info_ref : (Try.prog.info? 34).map (fun i => (i.zero, i.size, i.bytes)) = some (some (.int .u32 0), 1, 4) := by kernel_rfl
abbrev RU (w : World) (A : Option Addr) (C : Nat) (xs : List Int) : Prop := Row1 w 34 (Value.int .u32) A xs.length C xs
theorem ref_one (y : Int) : ∀ u ∈ [Value.int .u32 y], u.oneCell' = true := by
  intro u hu
  obtain rfl := List.mem_singleton.1 hu
  rfl
def RetU (w : World) (xs : List Int) (err : Int) (e : Ending) (w' : World) : Prop := ∃ A C, e = .returned (.tuple #[.slice A xs.length C, .int .i64 err]) ∧ RU w' A C xs ∧ Fresh w.heap.size A ∧ Same w w'
set_option maxRecDepth 100000 in
theorem urrefs_out (vars : Int) (A : Option Addr) (N C : Nat) (v : Int) (hv : ¬ (0 ≤ v ∧ v < vars)) (w : World) :
    Calls Try.prog 17 #[dtab vars A N C, .int .i64 v] w fun e w' => RetU w [] 2 e w' := by
  have HIN := Lib.hid (fun w => urin_any vars A N C v w)
  rw [decide_eq_false hv] at HIN
  unfold dtab at *
  go_enter Try.func17, Try.ntmps17
  go_upto_region 1 with fail
  refine wp_world fun w1 hw1 => ?_
  have hs1 : Same w w1 := by rw [hw1]; exact (Frm.refl _ _).alloc _
  have hX : Blk w1 w.heap.size 30 #[.int .i64 vars, .slice A N C] := by rw [hw1]; exact Blk.new _ _ _
  obtain ⟨X, hXX⟩ : ∃ z, z = w.heap.size := ⟨_, rfl⟩
  rw [← hXX] at hX ⊢
  have cX0 : w1.cell? ⟨X, 0, none⟩ = some (.int .i64 vars) := hX.cell 0
  have cX1 : w1.cell? ⟨X, 1, none⟩ = some (.slice A N C) := hX.cell 1
  have lX := hX.lt
  have HS1 := Lib.hid hs1
  clear hw1 hs1 hX hXX
  go_wp2_with (fail)
  refine (HIN.out w1).mono ?_
  rintro e w2 ⟨rfl, hs2⟩
  have HS2 := Lib.hid (HS1.out.trans hs2 (fun _ _ h => h))
  clear hs2
  go_wp2
  go_ret2
  exact ⟨none, 0, rfl, Own.nil _ _ _ _, fresh_none _, HS2.out⟩
set_option maxRecDepth 100000 in
set_option maxHeartbeats 8000000 in
theorem urrefs_any (vars : Int) (A : Option Addr) (C : Nat) (L : List Ent) (v : Nat) (hv : (v : Int) < vars) (w : World) (h : EL w A L) (hb : L.length * 24 ≤ 140737488355328) :
    Calls Try.prog 17 #[dtab vars A L.length C, .int .i64 v] w fun e w' => RetU w (rising (ofv L v)) 0 e w' := by
  have HIN := Lib.hid (fun w => urin_any vars A L.length C v w)
  rw [decide_eq_true ⟨by omega, hv⟩] at HIN
  have H := Lib.hid (show Sl w 4 ecells A L.length L from h)
  obtain ⟨N, hN⟩ : ∃ z, z = L.length := ⟨_, rfl⟩
  unfold dtab at *
  rw [← hN] at hb H HIN ⊢
  have HN := Lib.hid hN
  have HB := Lib.hid hb
  clear h hN hb hv
  go_enter Try.func17, Try.ntmps17
  go_upto_region 1 with fail
  refine wp_world fun w1 hw1 => ?_
  have hs1 : Same w w1 := by rw [hw1]; exact (Frm.refl _ _).alloc _
  have hX : Blk w1 w.heap.size 30 #[.int .i64 vars, .slice A N C] := by rw [hw1]; exact Blk.new _ _ _
  obtain ⟨X, hXX⟩ : ∃ z, z = w.heap.size := ⟨_, rfl⟩
  rw [← hXX] at hX ⊢
  have cX0 : w1.cell? ⟨X, 0, none⟩ = some (.int .i64 vars) := hX.cell 0
  have cX1 : w1.cell? ⟨X, 1, none⟩ = some (.slice A N C) := hX.cell 1
  have lX := hX.lt
  have HX := Lib.hid hX
  have HS1 := Lib.hid hs1
  clear hw1 hs1 hX hXX
  go_wp2_with (fail)
  refine (HIN.out w1).mono ?_
  rintro e w2 ⟨rfl, hs2⟩
  have HS2 := Lib.hid (HS1.out.trans hs2 (fun _ _ h => h))
  have cX1 : w2.cell? ⟨X, 1, none⟩ = some (.slice A N C) := (HX.out.frm hs2 id).cell 1
  have lX := (HX.out.frm hs2 id).lt
  clear hs2 cX0 HIN HX HS1
  go_wp2
  go_loopw [6, 18] (fun l i wr => ∃ (k : Nat) (B : Option Addr) (D : Nat) (xs : List Int), l = .slice B xs.length D ∧ i = .int .i64 k ∧ k ≤ N ∧ xs = sortI ((ofv (L.take k) v).map (·.2)) ∧ RU wr B D xs ∧ Fresh w.heap.size B ∧ (xs = [] → B = none ∧ D = 0) ∧ Same w wr) (fun _ i _ => N - (intOf i).toNat)
  case atStart => exact ⟨0, none, 0, [], rfl, rfl, Nat.zero_le _, by simp [ofv, sortI], Own.nil _ _ _ _, fresh_none _, fun _ => ⟨rfl, rfl⟩, HS2.out⟩
  case round =>
    obtain ⟨k, B, D, xs, rfl, rfl, hk, hxs, hrow, hfr, hnil, hs⟩ := hrel
    have HXS := Lib.hid hxs
    have HROW := Lib.hid hrow
    have HFR := Lib.hid hfr
    have HNIL := Lib.hid hnil
    have HS := Lib.hid hs
    clear hxs hrow hfr hnil hs HS2 cX1 lX
    by_cases hlt : k < N
    · have hlt' : k < L.length := by rw [← HN.out]; exact hlt
      obtain ⟨⟨⟨pv, pl, ph⟩, pr⟩, hp⟩ : ∃ p, L[k]? = some p := ⟨_, List.getElem?_eq_getElem hlt'⟩
      obtain ⟨bl, o, hA, hbl, hc⟩ := (Sl.same H.out HS.out).get k _ hp
      have c0 : wr.cell? ⟨bl, o + k * 4, none⟩ = some (.int .i64 pv) := hc 0 (by omega)
      have c1 : wr.cell? ⟨bl, o + k * 4 + 1, none⟩ = some (.int .u32 pl) := hc 1 (by omega)
      have c2 : wr.cell? ⟨bl, o + k * 4 + 2, none⟩ = some (.int .u32 ph) := hc 2 (by omega)
      have c3 : wr.cell? ⟨bl, o + k * 4 + 3, none⟩ = some (.int .u32 pr) := hc 3 (by omega)
      subst hA
      have hk0 : (0 : Int) ≤ k := by omega
      have hk1 : (k : Int) < N := by omega
      have hkb : k + 1 ≤ 9000000000000000000 := by have := HB.out; omega
      have HP := Lib.hid hp
      clear hc hp hlt'
      go_upto_region 7 with fail
      refine wp_world fun w3 hw3 => ?_
      have hs3 : Same wr w3 := by rw [hw3]; exact (Frm.refl _ _).alloc _
      have hZ : Blk w3 wr.heap.size 75 #[.int .i64 pv, .int .u32 pl, .int .u32 ph, .int .u32 pr] := by rw [hw3]; exact Blk.new _ _ _
      clear c0 c1 c2 c3 hbl hw3
      obtain ⟨Z, hZZ⟩ : ∃ z, z = wr.heap.size := ⟨_, rfl⟩
      rw [← hZZ] at hZ ⊢
      clear hZZ
      have cZ0 : w3.cell? ⟨Z, 0, none⟩ = some (.int .i64 pv) := hZ.cell 0
      have cZ3 : w3.cell? ⟨Z, 3, none⟩ = some (.int .u32 pr) := hZ.cell 3
      have lZ := hZ.lt
      have HZ := Lib.hid hZ
      have HSS := Lib.hid (HS.out.trans hs3 (fun _ _ h => h))
      have HROW := Lib.hid (HROW.out.frm hs3 (fun _ _ => id))
      clear hZ hs3
      by_cases he : pv = v
      · have HE := Lib.hid he
        subst pv
        clear HE
        have HIT := Lib.hid (ofv_take_hit (L := L) (v := v) HP.out rfl)
        have hxl : xs.length ≤ k := by
          have h1 := congrArg List.length HXS.out
          have h2 := List.length_filter_le (fun p : Ent => decide (p.1.v = (v : Int))) (L.take k)
          rw [show (sortI _).length = _ from List.length_mergeSort _, List.length_map] at h1
          unfold ofv at h1
          rw [List.length_take] at h2
          omega
        have hxl2 : xs.length < 9000000000000000000 := by omega
        go_wp2
        obtain ⟨M, hM⟩ : ∃ z, z = xs.length := ⟨_, rfl⟩
        rw [← hM] at hxl2 ⊢
        have HM := Lib.hid hM
        have hMk : M ≤ k := by rw [hM]; exact hxl
        clear hM hxl
        go_loopw [9] (fun a wi => ∃ j : Nat, a = .int .i64 j ∧ j ≤ M ∧ (∀ i y, i < j → xs[i]? = some y → y ≤ pr) ∧ Same w3 wi) (fun a _ => M - (intOf a).toNat)
        case atStart => exact ⟨0, rfl, Nat.zero_le _, fun i y hi => absurd hi (Nat.not_lt_zero _), Frm.refl _ _⟩
        case round =>
          obtain ⟨j, rfl, hj, hle, hsi⟩ := hrel
          have hjj : (0 : Int) ≤ j := by omega
          have hjj' := hjj
          have lZ := (HZ.out.frm hsi id).lt
          have cZ : wr.cell? ⟨Z, 3, none⟩ = some (.int .u32 pr) := (HZ.out.frm hsi id).cell 3
          have HLE := Lib.hid hle
          clear hle cZ0 cZ3
          rcases Nat.lt_or_ge 0 M with hM0 | hM0
          · obtain ⟨sb, rfl, hsb⟩ := HROW.out.form (by rw [← HM.out]; exact hM0)
            have HROWi := Lib.hid (HROW.out.frm hsi (fun _ _ => id))
            have HCAP := Lib.hid (show M ≤ D by rw [HM.out]; exact HROW.out.cap)
            have HMB := Lib.hid (show (M + 2) * 4 ≤ 140737488355328 by have := HB.out; have := hMk; omega)
            by_cases hjM : j < M
            · obtain ⟨y, hy⟩ : ∃ y, xs[j]? = some y := ⟨_, List.getElem?_eq_getElem (by rw [← HM.out]; exact hjM)⟩
              obtain ⟨sb', h1, hsb2, h3⟩ := HROWi.out.at1 hy
              cases h1
              have hk1' : (j : Int) < M := by omega
              have HY := Lib.hid hy
              clear hy
              by_cases hyp : y ≤ pr
              · clear hM0
                go_upto_region 9 with fail
                refine wp_quiet (by kernel_rfl) (by kernel_rfl) ?_
                repeat (any_goals (first | go_big_quiet_step (fail) | quiet_step (fail)))
                refine wpQuiet_nil ?_
                rintro w' ⟨p, hp⟩
                obtain ⟨w4, hw4⟩ : ∃ z, z = w' := ⟨_, rfl⟩
                rw [← hw4] at hp ⊢
                clear hw4
                have hw4 := hp
                clear hp
                have hsi2 : Same w3 w4 := hsi.trans (by rw [hw4]; exact more_same _ _) (fun _ _ h => h)
                have HSI := Lib.hid hsi2
                clear hw4 hsi hsi2 cZ lZ h3 hsb2
                go_wp2
                go_roundw
                case rel =>
                  refine ⟨j + 1, by go_num, hjM, fun i z hi hz => ?_, HSI.out⟩
                  by_cases e : i = j
                  · subst e
                    rw [HY.out] at hz
                    cases hz
                    exact hyp
                  · exact HLE.out i z (by omega) hz
                case measure => simp [intOf] <;> omega
              · have hyp2 : pr < y := by omega
                have HINS := Lib.hid (show xs.take j ++ [pr] ++ xs.drop j = sortI ((ofv (L.take (k + 1)) v).map (·.2)) by
                  rw [HIT.out, List.map_append, HXS.out]
                  refine sortI_ins (by rw [← HXS.out, ← HM.out]; exact hj) (fun i z hi hz => HLE.out i z hi (by rw [HXS.out]; exact hz)) (fun z hz => ?_)
                  rw [← HXS.out, HY.out] at hz
                  cases hz
                  exact hyp2)
                have HT1 := Lib.hid (show (xs.take j).length = j by rw [List.length_take, ← HM.out]; omega)
                have HT2 := Lib.hid (show (xs.drop j).length = M - j by rw [List.length_drop, ← HM.out])
                go_upto_region 9 with fail
                refine wp_quiet (by kernel_rfl) (by kernel_rfl) ?_
                repeat (any_goals (first | go_big_quiet_step (fail) | quiet_step (fail)))
                refine wpQuiet_nil ?_
                rintro w' ⟨p, hp⟩
                obtain ⟨w4, hw4⟩ : ∃ z, z = w' := ⟨_, rfl⟩
                rw [← hw4] at hp ⊢
                clear hw4
                have hw4 := hp
                clear hp
                have hs4 : Same wr w4 := by rw [hw4]; exact more_same _ _
                clear hw4
                have HS4 := Lib.hid ((HSS.out.trans hsi (fun _ _ h => h)).trans hs4 (fun _ _ h => h))
                have HZ4 := Lib.hid ((HZ.out.frm hsi id).frm hs4 id)
                have HROW4 := Lib.hid ((HROW.out.frm hsi (fun _ _ => id)).frm hs4 (fun _ _ => id))
                have lZ := HZ4.out.lt
                have HNE := Lib.hid (show sortI ((ofv (L.take (k + 1)) v).map (·.2)) ≠ [] from fun h => by
                  have := congrArg List.length h
                  rw [show (sortI _).length = _ from List.length_mergeSort _, HIT.out] at this
                  simp at this)
                clear hs4
                have HSB4 := Lib.hid (show sb < w4.heap.size from (HROW4.out.form (by rw [← HM.out]; exact hM0)).elim fun s hs => by have h := hs.1; cases h; exact hs.2)
                have HSR1 := Lib.hid (show ∀ q u, ((xs.take j).flatMap fun x => [Value.int .u32 x])[q]? = some u → w4.cell? ((⟨sb, 0, none⟩ : Addr).add q) = some u by simpa using part_cells (m := 1) (f := fun x => [Value.int .u32 x]) (fun _ => rfl) (by omega) (fun k x hx q hq => by obtain ⟨sb', h1, _, h3⟩ := Own.get (m := 1) (f := fun x : Int => [Value.int .u32 x]) (fun _ => rfl) HROW4.out hx; cases h1; exact h3 q hq) 0 (xs.take j) (fun k x hx => by
                  rw [List.getElem?_take] at hx
                  split at hx
                  · rw [Nat.zero_add]; exact hx
                  · cases hx))
                have hjD : (j : Int) ≤ D := by have := HCAP.out; omega
                clear hsi cZ h3 hsb2 hsb hjj' HROW HROWi HSS HZ HS
                go_upto_region 12 with fail
                refine wp_read 4 ?_
                simp only [List.take_succ_cons, List.take_zero, List.drop_succ_cons, List.drop_zero]
                repeat (any_goals (first | go_big_quiet_step (fail) | quiet_step (fail)))
                refine wpQuiet_nil ?_
                refine wpList_plain rfl fun K hK => ?_
                refine Own.append_many (f := fun x => [Value.int .u32 x]) (.tmp 42) (.tmp 45) _ rfl Try.underlying47 info_ref rfl (by omega) rfl (Own.nil w4 _ _ _) (fun _ => rfl) (xs.take j) (some ⟨sb, 0, none⟩) D (by rw [HT1.out]; rfl) (fun hne => ⟨_, rfl, HSR1.out⟩) (fun y _ => ref_one y) (by rw [HT1.out]; show _ ≤ 9223372036854775807; simp <;> omega) (by rw [HT1.out]; simp; have := HMB.out; omega) ?_
                intro A1 C1 w5 hO1 hg1 hat1
                refine hK _ _ ?_
                clear hK K
                rw [List.nil_append] at hO1 ⊢
                rw [HT1.out] at hO1 ⊢
                have hs5 : Same w4 w5 := (Frm.refl _ _).grown hg1 (fun g hg => by cases hg)
                have hA1 : ∀ b, rowOf A1 b → b = w4.heap.size := fun b hb => (hat1 b hb).elim (fun ⟨_, h, _⟩ => by cases h) id
                have cZ : w5.cell? ⟨Z, 3, none⟩ = some (.int .u32 pr) := (HZ4.out.frm hs5 id).cell 3
                have lZ := (HZ4.out.frm hs5 id).lt
                have HO1 := Lib.hid hO1
                have HA1 := Lib.hid hA1
                have HS5 := Lib.hid (HS4.out.trans hs5 (fun _ _ h => h))
                have HZ5 := Lib.hid (HZ4.out.frm hs5 id)
                have HROW5 := Lib.hid (HROW4.out.frm hs5 (fun _ _ => id))
                have HW4 := Lib.hid hs5
                clear hs5 hg1 hat1 hA1 hO1
                go_upto_region 13 with fail
                refine wp_read 3 ?_
                simp only [List.take_succ_cons, List.take_zero, List.drop_succ_cons, List.drop_zero]
                repeat (any_goals (first | go_big_quiet_step (fail) | quiet_step (fail)))
                refine wpQuiet_nil ?_
                refine wpList_plain rfl fun K hK => ?_
                go_simp
                obtain ⟨w6, hw6⟩ : ∃ z, z = w5.alloc (.cells #[.int .u32 pr] 34) := ⟨_, rfl⟩
                rw [← hw6]
                have hs6 : Same w5 w6 := by rw [hw6]; exact (Frm.refl _ _).alloc _
                have hB6 : Blk w6 w5.heap.size 34 #[.int .u32 pr] := by rw [hw6]; exact Blk.new w5 _ _
                clear hw6
                refine hK _ _ ?_
                clear hK K
                refine wpList_plain rfl fun K hK => ?_
                refine Own.append_many (f := fun x => [Value.int .u32 x]) (.tmp 47) (.tmp 50) _ rfl Try.underlying47 info_ref rfl (by omega) rfl (HO1.out.frm hs6 (fun _ _ => id)) (fun _ => rfl) [pr] (some ⟨w5.heap.size, 0, none⟩) 1 rfl (fun _ => ⟨_, rfl, news_of_blk (l := [Value.int .u32 pr]) hB6⟩) (fun y _ => ref_one y) (by rw [HT1.out]; show _ ≤ 9223372036854775807; simp <;> omega) (by rw [HT1.out]; simp; have := HMB.out; omega) ?_
                intro A2 C2 w7 hO2 hg2 hat2
                refine hK _ _ ?_
                clear hK K
                have hS7 : Same w w7 := (HS5.out.trans hs6 (fun _ _ h => h)).grown hg2 (fun g hg => .inr (by
                  have h1 := HA1.out g (ownBlock_row.1 hg)
                  have h2 := HS4.out.size
                  omega))
                have hA2 : ∀ b, rowOf A2 b → w4.heap.size ≤ b := fun b hb => by
                  rcases hat2 b hb with h | h
                  · exact Nat.le_of_eq (HA1.out b h).symm
                  · have h1 := HW4.out.size
                    have h2 := hs6.size
                    omega
                have hf7 : Frm (fun b => rowOf A1 b) w5 w7 := ((Frm.refl (fun b => rowOf A1 b) w5).trans hs6 (fun _ _ h => h.elim)).grown hg2 (fun g hg => .inl (ownBlock_row.1 hg))
                have hR7 : RU w7 (some ⟨sb, 0, none⟩) D xs := HROW5.out.frm hf7 (fun a ha hr => by
                  have h1 := HA1.out a.block hr
                  cases ha
                  have h2 := HSB4.out
                  simp only at h1
                  omega)
                have hp2 : ∀ q u, ((xs.drop j).flatMap fun x => [Value.int .u32 x])[q]? = some u → w7.cell? ((⟨sb, j * 1, none⟩ : Addr).add q) = some u := part_cells (m := 1) (f := fun x => [Value.int .u32 x]) (fun _ => rfl) (by omega) (fun k x hx q hq => by obtain ⟨sb', h1, _, h3⟩ := Own.get (m := 1) (f := fun x : Int => [Value.int .u32 x]) (fun _ => rfl) hR7 hx; cases h1; exact h3 q hq) j (xs.drop j) (fun k x hx => by rw [List.getElem?_drop] at hx; exact hx)
                rw [Nat.mul_one] at hp2
                have HP2 := Lib.hid hp2
                clear hR7 hp2

                have hl2 : (xs.take j ++ [pr]).length = (j + 1) := by rw [List.length_append, HT1.out]; rfl
                rw [hl2] at hO2 ⊢
                have HL2 := Lib.hid hl2
                have HO2 := Lib.hid hO2
                have HS7 := Lib.hid hS7
                have HA2 := Lib.hid hA2
                clear hO2 hg2 hat2 hS7 hA2 hf7 hs6 hB6 cZ lZ hl2
                go_upto_region 14 with fail
                refine wp_read 4 ?_
                simp only [List.take_succ_cons, List.take_zero, List.drop_succ_cons, List.drop_zero]
                repeat (any_goals (first | go_big_quiet_step (fail) | quiet_step (fail)))
                refine wpQuiet_nil ?_
                refine wpList_plain rfl fun K hK => ?_
                refine Own.append_many (f := fun x => [Value.int .u32 x]) (.tmp 52) (.tmp 55) _ rfl Try.underlying47 info_ref rfl (by omega) (by first | rfl | (simp; rfl)) HO2.out (fun _ => rfl) (xs.drop j) (if D = j then some ⟨sb, 0, none⟩ else some ⟨sb, j, none⟩) (D - j) (by rw [HT2.out]; rfl) (fun hne => ?_) (fun y _ => ref_one y) (by rw [HT2.out, HL2.out]; show _ ≤ 9223372036854775807; omega) (by rw [HT2.out, HL2.out]; have := HMB.out; omega) ?_
                · split
                  · exact absurd (List.length_eq_zero_iff.1 (HT2.out.trans (by have := HCAP.out; omega))) hne
                  · exact ⟨_, rfl, HP2.out⟩
                intro A3 C3 w8 hO3 hg3 hat3
                refine hK _ _ ?_
                clear hK K

                rw [HINS.out] at hO3 ⊢
                have hS8 : Same w w8 := HS7.out.grown hg3 (fun g hg => .inr (by
                  have h1 := HA2.out g (ownBlock_row.1 hg)
                  have h2 := HS4.out.size
                  omega))
                have hF3 : Fresh w.heap.size A3 := fun b hb => by
                  have h2 := HS4.out.size
                  have h3 := HS7.out.size
                  rcases hat3 b hb with h | h
                  · have := HA2.out b h
                    omega
                  · omega
                have HO3 := Lib.hid hO3
                have HS8 := Lib.hid hS8
                have HF3 := Lib.hid hF3
                clear hO3 hg3 hat3 hS8 hF3
                have hne3 := HNE.out
                obtain ⟨xs3, hx3⟩ : ∃ z, z = sortI ((ofv (L.take (k + 1)) v).map (·.2)) := ⟨_, rfl⟩
                rw [← hx3] at HO3 hne3 ⊢
                have HX3 := Lib.hid hx3
                clear hx3
                go_wp2
                all_goals go_roundw
                all_goals first
                  | exact ⟨k + 1, A3, C3, xs3, rfl, by go_num, hlt, HX3.out, HO3.out, HF3.out, fun h => absurd h hne3, HS8.out⟩
                  | (simp [intOf] <;> omega)
            · obtain rfl : j = M := by omega
              have hk1' : ¬ (j : Int) < j := by omega
              have HINS := Lib.hid (show xs.take j ++ [pr] ++ xs.drop j = sortI ((ofv (L.take (k + 1)) v).map (·.2)) by
                rw [HIT.out, List.map_append, HXS.out]
                refine sortI_ins (by rw [← HXS.out, ← HM.out]; exact hj) (fun i z hi hz => HLE.out i z hi (by rw [HXS.out]; exact hz)) (fun z hz => ?_)
                rw [← HXS.out, List.getElem?_eq_none (by rw [← HM.out]; exact Nat.le_refl _)] at hz
                cases hz)
              have HT1 := Lib.hid (show (xs.take j).length = j by rw [List.length_take, ← HM.out]; omega)
              have HT2 := Lib.hid (show (xs.drop j).length = 0 by rw [List.length_drop, ← HM.out]; omega)
              go_upto_region 9 with fail
              refine wp_quiet (by kernel_rfl) (by kernel_rfl) ?_
              repeat (any_goals (first | go_big_quiet_step (fail) | quiet_step (fail)))
              refine wpQuiet_nil ?_
              rintro w' ⟨p, hp⟩
              obtain ⟨w4, hw4⟩ : ∃ z, z = w' := ⟨_, rfl⟩
              rw [← hw4] at hp ⊢
              clear hw4
              have hw4 := hp
              clear hp
              have hs4 : Same wr w4 := by rw [hw4]; exact more_same _ _
              clear hw4
              have HS4 := Lib.hid ((HSS.out.trans hsi (fun _ _ h => h)).trans hs4 (fun _ _ h => h))
              have HZ4 := Lib.hid ((HZ.out.frm hsi id).frm hs4 id)
              have HROW4 := Lib.hid ((HROW.out.frm hsi (fun _ _ => id)).frm hs4 (fun _ _ => id))
              have lZ := HZ4.out.lt
              have HNE := Lib.hid (show sortI ((ofv (L.take (k + 1)) v).map (·.2)) ≠ [] from fun h => by
                have := congrArg List.length h
                rw [show (sortI _).length = _ from List.length_mergeSort _, HIT.out] at this
                simp at this)
              clear hs4
              have HSB4 := Lib.hid (show sb < w4.heap.size from (HROW4.out.form (by rw [← HM.out]; exact hM0)).elim fun s hs => by have h := hs.1; cases h; exact hs.2)
              have HSR1 := Lib.hid (show ∀ q u, ((xs.take j).flatMap fun x => [Value.int .u32 x])[q]? = some u → w4.cell? ((⟨sb, 0, none⟩ : Addr).add q) = some u by simpa using part_cells (m := 1) (f := fun x => [Value.int .u32 x]) (fun _ => rfl) (by omega) (fun k x hx q hq => by obtain ⟨sb', h1, _, h3⟩ := Own.get (m := 1) (f := fun x : Int => [Value.int .u32 x]) (fun _ => rfl) HROW4.out hx; cases h1; exact h3 q hq) 0 (xs.take j) (fun k x hx => by
                rw [List.getElem?_take] at hx
                split at hx
                · rw [Nat.zero_add]; exact hx
                · cases hx))
              have hjD : (j : Int) ≤ D := by have := HCAP.out; omega
              clear hsi cZ hsb hjj' HROW HROWi HSS HZ HS
              go_upto_region 12 with fail
              refine wp_read 4 ?_
              simp only [List.take_succ_cons, List.take_zero, List.drop_succ_cons, List.drop_zero]
              repeat (any_goals (first | go_big_quiet_step (fail) | quiet_step (fail)))
              refine wpQuiet_nil ?_
              refine wpList_plain rfl fun K hK => ?_
              refine Own.append_many (f := fun x => [Value.int .u32 x]) (.tmp 42) (.tmp 45) _ rfl Try.underlying47 info_ref rfl (by omega) rfl (Own.nil w4 _ _ _) (fun _ => rfl) (xs.take j) (some ⟨sb, 0, none⟩) D (by rw [HT1.out]; rfl) (fun hne => ⟨_, rfl, HSR1.out⟩) (fun y _ => ref_one y) (by rw [HT1.out]; show _ ≤ 9223372036854775807; simp <;> omega) (by rw [HT1.out]; simp; have := HMB.out; omega) ?_
              intro A1 C1 w5 hO1 hg1 hat1
              refine hK _ _ ?_
              clear hK K
              rw [List.nil_append] at hO1 ⊢
              rw [HT1.out] at hO1 ⊢
              have hs5 : Same w4 w5 := (Frm.refl _ _).grown hg1 (fun g hg => by cases hg)
              have hA1 : ∀ b, rowOf A1 b → b = w4.heap.size := fun b hb => (hat1 b hb).elim (fun ⟨_, h, _⟩ => by cases h) id
              have cZ : w5.cell? ⟨Z, 3, none⟩ = some (.int .u32 pr) := (HZ4.out.frm hs5 id).cell 3
              have lZ := (HZ4.out.frm hs5 id).lt
              have HO1 := Lib.hid hO1
              have HA1 := Lib.hid hA1
              have HS5 := Lib.hid (HS4.out.trans hs5 (fun _ _ h => h))
              have HZ5 := Lib.hid (HZ4.out.frm hs5 id)
              have HROW5 := Lib.hid (HROW4.out.frm hs5 (fun _ _ => id))
              have HW4 := Lib.hid hs5
              clear hs5 hg1 hat1 hA1 hO1
              go_upto_region 13 with fail
              refine wp_read 3 ?_
              simp only [List.take_succ_cons, List.take_zero, List.drop_succ_cons, List.drop_zero]
              repeat (any_goals (first | go_big_quiet_step (fail) | quiet_step (fail)))
              refine wpQuiet_nil ?_
              refine wpList_plain rfl fun K hK => ?_
              go_simp
              obtain ⟨w6, hw6⟩ : ∃ z, z = w5.alloc (.cells #[.int .u32 pr] 34) := ⟨_, rfl⟩
              rw [← hw6]
              have hs6 : Same w5 w6 := by rw [hw6]; exact (Frm.refl _ _).alloc _
              have hB6 : Blk w6 w5.heap.size 34 #[.int .u32 pr] := by rw [hw6]; exact Blk.new w5 _ _
              clear hw6
              refine hK _ _ ?_
              clear hK K
              refine wpList_plain rfl fun K hK => ?_
              refine Own.append_many (f := fun x => [Value.int .u32 x]) (.tmp 47) (.tmp 50) _ rfl Try.underlying47 info_ref rfl (by omega) rfl (HO1.out.frm hs6 (fun _ _ => id)) (fun _ => rfl) [pr] (some ⟨w5.heap.size, 0, none⟩) 1 rfl (fun _ => ⟨_, rfl, news_of_blk (l := [Value.int .u32 pr]) hB6⟩) (fun y _ => ref_one y) (by rw [HT1.out]; show _ ≤ 9223372036854775807; simp <;> omega) (by rw [HT1.out]; simp; have := HMB.out; omega) ?_
              intro A2 C2 w7 hO2 hg2 hat2
              refine hK _ _ ?_
              clear hK K
              have hS7 : Same w w7 := (HS5.out.trans hs6 (fun _ _ h => h)).grown hg2 (fun g hg => .inr (by
                have h1 := HA1.out g (ownBlock_row.1 hg)
                have h2 := HS4.out.size
                omega))
              have hA2 : ∀ b, rowOf A2 b → w4.heap.size ≤ b := fun b hb => by
                rcases hat2 b hb with h | h
                · exact Nat.le_of_eq (HA1.out b h).symm
                · have h1 := HW4.out.size
                  have h2 := hs6.size
                  omega
              have hf7 : Frm (fun b => rowOf A1 b) w5 w7 := ((Frm.refl (fun b => rowOf A1 b) w5).trans hs6 (fun _ _ h => h.elim)).grown hg2 (fun g hg => .inl (ownBlock_row.1 hg))
              have hR7 : RU w7 (some ⟨sb, 0, none⟩) D xs := HROW5.out.frm hf7 (fun a ha hr => by
                have h1 := HA1.out a.block hr
                cases ha
                have h2 := HSB4.out
                simp only at h1
                omega)
              have hp2 : ∀ q u, ((xs.drop j).flatMap fun x => [Value.int .u32 x])[q]? = some u → w7.cell? ((⟨sb, j * 1, none⟩ : Addr).add q) = some u := part_cells (m := 1) (f := fun x => [Value.int .u32 x]) (fun _ => rfl) (by omega) (fun k x hx q hq => by obtain ⟨sb', h1, _, h3⟩ := Own.get (m := 1) (f := fun x : Int => [Value.int .u32 x]) (fun _ => rfl) hR7 hx; cases h1; exact h3 q hq) j (xs.drop j) (fun k x hx => by rw [List.getElem?_drop] at hx; exact hx)
              rw [Nat.mul_one] at hp2
              have HP2 := Lib.hid hp2
              clear hR7 hp2

              have hl2 : (xs.take j ++ [pr]).length = (j + 1) := by rw [List.length_append, HT1.out]; rfl
              rw [hl2] at hO2 ⊢
              have HL2 := Lib.hid hl2
              have HO2 := Lib.hid hO2
              have HS7 := Lib.hid hS7
              have HA2 := Lib.hid hA2
              clear hO2 hg2 hat2 hS7 hA2 hf7 hs6 hB6 cZ lZ hl2
              go_upto_region 14 with fail
              refine wp_read 4 ?_
              simp only [List.take_succ_cons, List.take_zero, List.drop_succ_cons, List.drop_zero]
              repeat (any_goals (first | go_big_quiet_step (fail) | quiet_step (fail)))
              refine wpQuiet_nil ?_
              refine wpList_plain rfl fun K hK => ?_
              refine Own.append_many (f := fun x => [Value.int .u32 x]) (.tmp 52) (.tmp 55) _ rfl Try.underlying47 info_ref rfl (by omega) (by first | rfl | (simp; rfl)) HO2.out (fun _ => rfl) (xs.drop j) (if D = j then some ⟨sb, 0, none⟩ else some ⟨sb, j, none⟩) (D - j) (by rw [HT2.out]; rfl) (fun hne => ?_) (fun y _ => ref_one y) (by rw [HT2.out, HL2.out]; show _ ≤ 9223372036854775807; omega) (by rw [HT2.out, HL2.out]; have := HMB.out; omega) ?_
              · split
                · exact absurd (List.length_eq_zero_iff.1 (HT2.out.trans (by have := HCAP.out; omega))) hne
                · exact ⟨_, rfl, HP2.out⟩
              intro A3 C3 w8 hO3 hg3 hat3
              refine hK _ _ ?_
              clear hK K

              rw [HINS.out] at hO3 ⊢
              have hS8 : Same w w8 := HS7.out.grown hg3 (fun g hg => .inr (by
                have h1 := HA2.out g (ownBlock_row.1 hg)
                have h2 := HS4.out.size
                omega))
              have hF3 : Fresh w.heap.size A3 := fun b hb => by
                have h2 := HS4.out.size
                have h3 := HS7.out.size
                rcases hat3 b hb with h | h
                · have := HA2.out b h
                  omega
                · omega
              have HO3 := Lib.hid hO3
              have HS8 := Lib.hid hS8
              have HF3 := Lib.hid hF3
              clear hO3 hg3 hat3 hS8 hF3
              have hne3 := HNE.out
              obtain ⟨xs3, hx3⟩ : ∃ z, z = sortI ((ofv (L.take (k + 1)) v).map (·.2)) := ⟨_, rfl⟩
              rw [← hx3] at HO3 hne3 ⊢
              have HX3 := Lib.hid hx3
              clear hx3
              go_wp2
              all_goals go_roundw
              all_goals first
                | exact ⟨k + 1, A3, C3, xs3, rfl, by go_num, hlt, HX3.out, HO3.out, HF3.out, fun h => absurd h hne3, HS8.out⟩
                | (simp [intOf] <;> omega)
          · obtain rfl : M = 0 := by omega
            obtain rfl : j = 0 := by omega
            obtain rfl := List.length_eq_zero_iff.1 HM.out.symm
            obtain ⟨rfl, rfl⟩ := HNIL.out rfl
            have HINS := Lib.hid (show [pr] = sortI ((ofv (L.take (k + 1)) v).map (·.2)) by
              rw [HIT.out, List.map_append]
              have h0 : (ofv (L.take k) v).map (·.2) = [] := List.length_eq_zero_iff.1 (by rw [← List.length_mergeSort (le := fun x y => decide (x ≤ y)), show ((ofv (L.take k) v).map (·.2)).mergeSort (fun x y => decide (x ≤ y)) = [] from HXS.out.symm]; rfl)
              rw [h0]
              simp [sortI])
            have HT1 := Lib.hid (show ([] : List Int).length = 0 from rfl)
            go_upto_region 9 with fail
            refine wp_quiet (by kernel_rfl) (by kernel_rfl) ?_
            repeat (any_goals (first | go_big_quiet_step (fail) | quiet_step (fail)))
            refine wpQuiet_nil ?_
            rintro w' ⟨p, hp⟩
            obtain ⟨w4, hw4⟩ : ∃ z, z = w' := ⟨_, rfl⟩
            rw [← hw4] at hp ⊢
            clear hw4
            have hw4 := hp
            clear hp
            have hs4 : Same wr w4 := by rw [hw4]; exact more_same _ _
            clear hw4
            have HS4 := Lib.hid ((HSS.out.trans hsi (fun _ _ h => h)).trans hs4 (fun _ _ h => h))
            have HZ4 := Lib.hid ((HZ.out.frm hsi id).frm hs4 id)
            have HROW4 := Lib.hid ((HROW.out.frm hsi (fun _ _ => id)).frm hs4 (fun _ _ => id))
            have lZ := HZ4.out.lt
            have HNE := Lib.hid (show sortI ((ofv (L.take (k + 1)) v).map (·.2)) ≠ [] from fun h => by
              have := congrArg List.length h
              rw [show (sortI _).length = _ from List.length_mergeSort _, HIT.out] at this
              simp at this)
            clear hs4
            clear hsi cZ hjj' HROW HSS HZ HS
            go_upto_region 12 with fail
            refine wp_read 4 ?_
            simp only [List.take_succ_cons, List.take_zero, List.drop_succ_cons, List.drop_zero]
            repeat (any_goals (first | go_big_quiet_step (fail) | quiet_step (fail)))
            refine wpQuiet_nil ?_
            refine wpList_plain rfl fun K hK => ?_
            refine Own.append_many (f := fun x => [Value.int .u32 x]) (.tmp 42) (.tmp 45) _ rfl Try.underlying47 info_ref rfl (by omega) rfl (Own.nil w4 _ _ _) (fun _ => rfl) ([] : List Int) none 0 (by rw [HT1.out]; rfl) (fun hne => absurd rfl hne) (fun y _ => ref_one y) (by rw [HT1.out]; show _ ≤ 9223372036854775807; simp) (by rw [HT1.out]; simp) ?_
            intro A1 C1 w5 hO1 hg1 hat1
            refine hK _ _ ?_
            clear hK K
            rw [List.nil_append] at hO1 ⊢
            rw [HT1.out] at hO1 ⊢
            have hs5 : Same w4 w5 := (Frm.refl _ _).grown hg1 (fun g hg => by cases hg)
            have hA1 : ∀ b, rowOf A1 b → b = w4.heap.size := fun b hb => (hat1 b hb).elim (fun ⟨_, h, _⟩ => by cases h) id
            have cZ : w5.cell? ⟨Z, 3, none⟩ = some (.int .u32 pr) := (HZ4.out.frm hs5 id).cell 3
            have lZ := (HZ4.out.frm hs5 id).lt
            have HO1 := Lib.hid hO1
            have HA1 := Lib.hid hA1
            have HS5 := Lib.hid (HS4.out.trans hs5 (fun _ _ h => h))
            have HZ5 := Lib.hid (HZ4.out.frm hs5 id)
            have HROW5 := Lib.hid (HROW4.out.frm hs5 (fun _ _ => id))
            have HW4 := Lib.hid hs5
            clear hs5 hg1 hat1 hA1 hO1
            go_upto_region 13 with fail
            refine wp_read 3 ?_
            simp only [List.take_succ_cons, List.take_zero, List.drop_succ_cons, List.drop_zero]
            repeat (any_goals (first | go_big_quiet_step (fail) | quiet_step (fail)))
            refine wpQuiet_nil ?_
            refine wpList_plain rfl fun K hK => ?_
            go_simp
            obtain ⟨w6, hw6⟩ : ∃ z, z = w5.alloc (.cells #[.int .u32 pr] 34) := ⟨_, rfl⟩
            rw [← hw6]
            have hs6 : Same w5 w6 := by rw [hw6]; exact (Frm.refl _ _).alloc _
            have hB6 : Blk w6 w5.heap.size 34 #[.int .u32 pr] := by rw [hw6]; exact Blk.new w5 _ _
            clear hw6
            refine hK _ _ ?_
            clear hK K
            refine wpList_plain rfl fun K hK => ?_
            refine Own.append_many (f := fun x => [Value.int .u32 x]) (.tmp 47) (.tmp 50) _ rfl Try.underlying47 info_ref rfl (by omega) rfl (HO1.out.frm hs6 (fun _ _ => id)) (fun _ => rfl) [pr] (some ⟨w5.heap.size, 0, none⟩) 1 rfl (fun _ => ⟨_, rfl, news_of_blk (l := [Value.int .u32 pr]) hB6⟩) (fun y _ => ref_one y) (by rw [HT1.out]; show _ ≤ 9223372036854775807; simp) (by rw [HT1.out]; simp) ?_
            intro A2 C2 w7 hO2 hg2 hat2
            refine hK _ _ ?_
            clear hK K
            have hS7 : Same w w7 := (HS5.out.trans hs6 (fun _ _ h => h)).grown hg2 (fun g hg => .inr (by
              have h1 := HA1.out g (ownBlock_row.1 hg)
              have h2 := HS4.out.size
              omega))
            have hA2 : ∀ b, rowOf A2 b → w4.heap.size ≤ b := fun b hb => by
              rcases hat2 b hb with h | h
              · exact Nat.le_of_eq (HA1.out b h).symm
              · have h1 := HW4.out.size
                have h2 := hs6.size
                omega
            have hf7 : Frm (fun b => rowOf A1 b) w5 w7 := ((Frm.refl (fun b => rowOf A1 b) w5).trans hs6 (fun _ _ h => h.elim)).grown hg2 (fun g hg => .inl (ownBlock_row.1 hg))
            rw [List.nil_append] at hO2 ⊢
            have hl2 : ([pr]).length = 1 := by rfl
            rw [hl2] at hO2 ⊢
            have HL2 := Lib.hid hl2
            have HO2 := Lib.hid hO2
            have HS7 := Lib.hid hS7
            have HA2 := Lib.hid hA2
            clear hO2 hg2 hat2 hS7 hA2 hf7 hs6 hB6 cZ lZ hl2
            go_upto_region 14 with fail
            refine wp_read 4 ?_
            simp only [List.take_succ_cons, List.take_zero, List.drop_succ_cons, List.drop_zero]
            repeat (any_goals (first | go_big_quiet_step (fail) | quiet_step (fail)))
            refine wpQuiet_nil ?_
            refine wpList_plain rfl fun K hK => ?_
            refine Own.append_many (f := fun x => [Value.int .u32 x]) (.tmp 52) (.tmp 55) _ rfl Try.underlying47 info_ref rfl (by omega) rfl HO2.out (fun _ => rfl) ([] : List Int) none 0 rfl (fun hne => absurd rfl hne) (fun y _ => ref_one y) (by rw [HL2.out]; show _ ≤ 9223372036854775807; simp) (by rw [HL2.out]; simp) ?_
            intro A3 C3 w8 hO3 hg3 hat3
            refine hK _ _ ?_
            clear hK K
            rw [List.append_nil] at hO3 ⊢
            rw [HINS.out] at hO3 ⊢
            have hS8 : Same w w8 := HS7.out.grown hg3 (fun g hg => .inr (by
              have h1 := HA2.out g (ownBlock_row.1 hg)
              have h2 := HS4.out.size
              omega))
            have hF3 : Fresh w.heap.size A3 := fun b hb => by
              have h2 := HS4.out.size
              have h3 := HS7.out.size
              rcases hat3 b hb with h | h
              · have := HA2.out b h
                omega
              · omega
            have HO3 := Lib.hid hO3
            have HS8 := Lib.hid hS8
            have HF3 := Lib.hid hF3
            clear hO3 hg3 hat3 hS8 hF3
            have hne3 := HNE.out
            obtain ⟨xs3, hx3⟩ : ∃ z, z = sortI ((ofv (L.take (k + 1)) v).map (·.2)) := ⟨_, rfl⟩
            rw [← hx3] at HO3 hne3 ⊢
            have HX3 := Lib.hid hx3
            clear hx3
            go_wp2
            all_goals go_roundw
            all_goals first
              | exact ⟨k + 1, A3, C3, xs3, rfl, by go_num, hlt, HX3.out, HO3.out, HF3.out, fun h => absurd h hne3, HS8.out⟩
              | (simp [intOf] <;> omega)
      · have hm := Lib.hid (ofv_take_miss HP.out he)
        have he' : ¬ pv = (v : Int) := he
        clear he
        go_wp2
        go_roundw
        case rel => exact ⟨k + 1, B, D, xs, rfl, by go_num, hlt, by rw [hm.out]; exact HXS.out, HROW.out, HFR.out, HNIL.out, HSS.out⟩
        case measure => simp [intOf] <;> omega
    · obtain rfl : k = N := by omega
      have HX2 := Lib.hid (show xs = rising (ofv L v) by rw [HXS.out, List.take_of_length_le (by rw [HN.out]; exact Nat.le_refl _)]; rfl)
      clear HXS
      go_wp2
      go_ret2
      rw [← HX2.out]
      exact ⟨B, D, rfl, HROW.out, HFR.out, HS.out⟩
end Go.Proofs.Ytkelbbalffijbaa


/- Layer 07: same. -/
namespace Go.Proofs.Ytkelbbalffijbaa
open Go.RowKit Go.Tk Go.Maps

abbrev UL (w : World) (A : Option Addr) (n : Nat) (xs : List Int) : Prop := Sl w 1 (fun x : Int => [Value.int .u32 x]) A n xs
theorem UL.at {w : World} {A : Option Addr} {n : Nat} {xs : List Int} (h : UL w A n xs) {i : Nat} {x : Int} (hi : xs[i]? = some x) : ∃ b off, A = some ⟨b, off, none⟩ ∧ b < w.heap.size ∧ w.cell? ⟨b, off + i, none⟩ = some (.int .u32 x) := by
  obtain ⟨b, off, h1, h2, h3⟩ := h.get i x hi
  have h4 := h3 0 (by omega)
  rw [Nat.mul_one, Nat.add_zero] at h4
  exact ⟨b, off, h1, h2, h4⟩
theorem RU.ul {w : World} {A : Option Addr} {C : Nat} {xs : List Int} (h : RU w A C xs) : UL w A xs.length xs := Own.sl (fun _ => rfl) h
theorem eq_take_all {α : Type} {xs ys : List α} (hl : xs.length = ys.length) (h : ∀ i x, i < xs.length → xs[i]? = some x → ys[i]? = some x) : xs = ys := by
  refine List.ext_getElem? fun i => ?_
  rcases Nat.lt_or_ge i xs.length with hi | hi
  · rw [List.getElem?_eq_getElem hi]
    exact (h i _ hi (List.getElem?_eq_getElem hi)).symm
  · rw [List.getElem?_eq_none hi, List.getElem?_eq_none (by omega)]
set_option maxRecDepth 100000 in
set_option maxHeartbeats 2000000 in
theorem usame_any (A B : Option Addr) (C D : Nat) (xs ys : List Int) (w : World) (ha : UL w A xs.length xs) (hb : UL w B ys.length ys) (hx : xs.length ≤ 1000000000000000000) (_hy : ys.length ≤ 1000000000000000000) :
    Calls Try.prog 18 #[.slice A xs.length C, .slice B ys.length D] w fun e w' => e = .returned (.bool (decide (xs = ys))) ∧ Same w w' := by
  have HA := Lib.hid ha
  have HB := Lib.hid hb
  clear ha hb
  by_cases hl : xs.length = ys.length
  · have hIf := Lib.hid (fun h => @eq_take_all Int xs ys hl h)
    have hlI := Lib.hid hl
    obtain ⟨N, hN⟩ : ∃ z, z = xs.length := ⟨_, rfl⟩
    rw [← hl, ← hN]
    have HN := Lib.hid hN
    rw [← hN] at hx
    clear hl hN
    go_enter Try.func18, Try.ntmps18
    go_wp2
    go_loopw [13] (fun i wr => ∃ k : Nat, i = .int .i64 k ∧ k ≤ N ∧ (∀ i x, i < k → xs[i]? = some x → ys[i]? = some x) ∧ Same w wr) (fun i _ => N - (intOf i).toNat)
    case atStart => exact ⟨0, rfl, Nat.zero_le _, fun i x hi => absurd hi (Nat.not_lt_zero _), Frm.refl _ _⟩
    case round =>
      obtain ⟨k, rfl, hk, hle, hs⟩ := hrel
      have HLE := Lib.hid hle
      have HS := Lib.hid hs
      clear hle hs
      by_cases hlt : k < N
      · obtain ⟨x, hxk⟩ : ∃ x, xs[k]? = some x := ⟨_, List.getElem?_eq_getElem (by rw [← HN.out]; exact hlt)⟩
        obtain ⟨y, hyk⟩ : ∃ y, ys[k]? = some y := ⟨_, List.getElem?_eq_getElem (by rw [← hlI.out, ← HN.out]; exact hlt)⟩
        obtain ⟨b1, o1, rfl, l1, c1⟩ := UL.at (Sl.same HA.out HS.out) hxk
        obtain ⟨b2, o2, rfl, l2, c2⟩ := UL.at (Sl.same HB.out HS.out) hyk
        have hk0 : (0 : Int) ≤ k := by omega
        have hk1 : (k : Int) < N := by omega
        have HXK := Lib.hid hxk
        have HYK := Lib.hid hyk
        clear hxk hyk
        by_cases he : x = y
        · subst he
          go_upto_region 6 with fail
          refine wp_quiet (by kernel_rfl) (by kernel_rfl) ?_
          repeat (any_goals (first | go_big_quiet_step (fail) | quiet_step (fail)))
          refine wpQuiet_nil ?_
          rintro w' ⟨p, hp⟩
          have HSP := Lib.hid (HS.out.trans (show Same wr w' by rw [hp]; exact more_same _ _) (fun _ _ h => h))
          clear hp
          go_wp2
          go_roundw
          case rel =>
            refine ⟨k + 1, by go_num, hlt, fun i z hi hz => ?_, HSP.out⟩
            by_cases e : i = k
            · subst e
              rw [HXK.out] at hz
              cases hz
              exact HYK.out
            · exact HLE.out i z (by omega) hz
          case measure => simp [intOf] <;> omega
        · have HNE := Lib.hid (show decide (xs = ys) = false from decide_eq_false fun e => by
            rw [e, HYK.out] at HXK
            exact he (Option.some.inj HXK.out).symm)
          go_upto_region 6 with fail
          refine wp_quiet (by kernel_rfl) (by kernel_rfl) ?_
          repeat (any_goals (first | go_big_quiet_step (fail) | quiet_step (fail)))
          refine wpQuiet_nil ?_
          rintro w' ⟨p, hp⟩
          have HSP := Lib.hid (HS.out.trans (show Same wr w' by rw [hp]; exact more_same _ _) (fun _ _ h => h))
          clear hp
          go_wp2
          go_ret
          exact ⟨by rw [HNE.out]; rfl, HSP.out⟩
      · obtain rfl : k = N := by omega
        have HEQ := Lib.hid (show decide (xs = ys) = true from decide_eq_true (hIf.out (by rw [← HN.out]; exact HLE.out)))
        go_wp2
        go_ret
        exact ⟨by rw [HEQ.out]; rfl, HS.out⟩
  · have HNE := Lib.hid (show decide (xs = ys) = false from decide_eq_false fun e => hl (by rw [e]))
    have hl2 : ¬ (xs.length : Int) = ys.length := by omega
    go_enter Try.func18, Try.ntmps18
    go_wp2
    go_ret
    exact ⟨by rw [HNE.out]; rfl, Frm.refl _ _⟩
end Go.Proofs.Ytkelbbalffijbaa


/- Layer 07: data that came in: nodes, calls. -/
namespace Go.Tk
open Go.RowKit
theorem Sl.unsub {α : Type} {Q : α → Prop} {w : World} {m : Nat} {f : α → List Value} {A : Option Addr} {n : Nat} {xs : List {x : α // Q x}} (h : Sl w m (fun x : {x : α // Q x} => f x.1) A n xs) : Sl w m f A n (xs.map (·.1)) ∧ ∀ x ∈ xs.map (·.1), Q x := by
  refine ⟨⟨by rw [h.len, List.length_map], fun i x hx => ?_⟩, fun x hx => ?_⟩
  · rw [List.getElem?_map] at hx
    obtain ⟨y, hy, rfl⟩ := Option.map_eq_some_iff.1 hx
    exact h.get i y hy
  · obtain ⟨y, _, rfl⟩ := List.mem_map.1 hx
    exact y.2
end Go.Tk
namespace Go.Proofs.Ytkelbbalffijbaa
open Go.RowKit Go.Tk Go.Maps

/-- one call of a script -/
structure Opu where
  k : Int
  n : Nd
  r : Int
deriving DecidableEq
def Opu.cells (o : Opu) : List Value := [.int .i64 o.k, .int .i64 o.n.v, .int .u32 o.n.lo, .int .u32 o.n.hi, .int .u32 o.r]
def Opu.ok (o : Opu) : Prop := o.n.ok ∧ (Lit.int .u32 o.r).wf = true
abbrev ndKs : List Leaf := [.int .i64, .int .u32, .int .u32]
abbrev opuKs : List Leaf := [.int .i64, .int .i64, .int .u32, .int .u32, .int .u32]
theorem nd_of {w : World} (l : List Value) (h : CellsOk w ndKs l) : ∃ n : Nd, n.ok ∧ l = n.cells := by
  simp only [CellsOk, CellOk] at h
  obtain ⟨v0, l0, rfl, ⟨n0, rfl, w0⟩, v1, l1, rfl, ⟨n1, rfl, w1⟩, v2, l2, rfl, ⟨n2, rfl, w2⟩, rfl⟩ := h
  exact ⟨⟨n0, n1, n2⟩, ⟨w0, w1, w2⟩, rfl⟩
theorem opu_of {w : World} (l : List Value) (h : CellsOk w opuKs l) : ∃ o : {o : Opu // o.ok}, l = o.1.cells := by
  simp only [CellsOk, CellOk] at h
  obtain ⟨v0, l0, rfl, ⟨n0, rfl, w0⟩, v1, l1, rfl, ⟨n1, rfl, w1⟩, v2, l2, rfl, ⟨n2, rfl, w2⟩, v3, l3, rfl, ⟨n3, rfl, w3⟩, v4, l4, rfl, ⟨n4, rfl, w4⟩, rfl⟩ := h
  exact ⟨⟨⟨n0, ⟨n1, n2, n3⟩, n4⟩, ⟨w1, w2, w3⟩, w4⟩, rfl⟩
theorem opu_ok {w : World} {v : Value} (h : CellOk w (.slice 32 opuKs) v) : ∃ A n c xs, v = .slice A n c ∧ n ≤ c ∧ c * 32 ≤ reachBytes ∧ Sl w 5 Opu.cells A n xs ∧ ∀ o ∈ xs, o.ok := by
  obtain ⟨A, n, c, xs, rfl, h1, _, h2, h3⟩ := slice_ok (fun o : {o : Opu // o.ok} => o.1.cells) (by decide) opu_of h
  obtain ⟨h4, h5⟩ := h3.unsub
  exact ⟨A, n, c, _, rfl, h1, h2, h4, h5⟩
end Go.Proofs.Ytkelbbalffijbaa


/- Layer 07: the table's and the reference's answers in one word. -/
namespace Go.Proofs.Ytkelbbalffijbaa
open Go.RowKit Go.Tk Go.Maps

/-- the Refs of a variable, rising -/
def rvL (vars : Nat) (L : List Ent) (v : Int) : List Int := if 0 ≤ v ∧ v < vars then rising (ofv L v.toNat) else []
theorem rvL_len (vars : Nat) (L : List Ent) (v : Int) : (rvL vars L v).length ≤ L.length := by
  unfold rvL
  split
  · rw [rising_len]; exact List.length_filter_le (fun p : Ent => decide (p.1.v = (v.toNat : Int))) L
  · exact Nat.zero_le _
theorem uqcount_both (U : UTab) (vars : Nat) (L : List Ent) (v : Int) (w : World) (h : UT w U vars L) :
    Calls Try.prog 13 #[.pointer (some ⟨U.T, 0, none⟩), .int .i64 v] w fun e w' => e = .returned (.tuple #[.int .i64 ((rvL vars L v).length : Nat), .int .i64 (vErr vars v)]) ∧ w' = w := by
  have h1 := uqcount_any U vars L v w h
  have h2 : (rvL vars L v).length = if 0 ≤ v ∧ v < vars then (ofv L v.toNat).length else 0 := by
    unfold rvL
    by_cases hv : 0 ≤ v ∧ v < vars
    · rw [if_pos hv, if_pos hv, rising_len]
    · rw [if_neg hv, if_neg hv]; rfl
  rw [h2]
  exact h1
theorem uqrefs_both (U : UTab) (vars : Nat) (L : List Ent) (v : Int) (w : World) (h : UT w U vars L) (hmax : L.length * 4 ≤ 140737488355328) :
    Calls Try.prog 14 #[.pointer (some ⟨U.T, 0, none⟩), .int .i64 v] w fun e w' => ∃ A C, e = .returned (.tuple #[.slice A (rvL vars L v).length C, .int .i64 (vErr vars v)]) ∧ RU w' A C (rvL vars L v) ∧ Fresh w.heap.size A ∧ Same w w' := by
  by_cases hv : 0 ≤ v ∧ v < vars
  · obtain ⟨u, rfl⟩ := Int.eq_ofNat_of_zero_le hv.1
    have h2 : rvL vars L u = rising (ofv L u) := by unfold rvL; rw [if_pos hv, Int.toNat_natCast]
    rw [h2, show vErr vars u = 0 from if_pos hv]
    refine (uqrefs_any U vars L u (by omega) w h hmax).mono ?_
    rintro e w' ⟨x, rfl, ⟨A, C, rfl, h3, h4, _⟩, h5⟩
    exact ⟨A, C, rfl, h3, h4, h5⟩
  · rw [show rvL vars L v = [] from if_neg hv, show vErr vars v = 2 from if_neg hv]
    refine (uqrefs_out U vars L v hv w h).mono ?_
    rintro e w' ⟨rfl, rfl⟩
    exact ⟨none, 0, rfl, Own.nil _ _ _ _, fresh_none _, Frm.refl _ _⟩
theorem urrefs_both (vars : Nat) (A : Option Addr) (C : Nat) (L : List Ent) (v : Int) (w : World) (h : EL w A L) (hb : L.length * 24 ≤ 140737488355328) :
    Calls Try.prog 17 #[dtab vars A L.length C, .int .i64 v] w fun e w' => RetU w (rvL vars L v) (vErr vars v) e w' := by
  by_cases hv : 0 ≤ v ∧ v < vars
  · obtain ⟨u, rfl⟩ := Int.eq_ofNat_of_zero_le hv.1
    have h2 : rvL vars L u = rising (ofv L u) := by unfold rvL; rw [if_pos hv, Int.toNat_natCast]
    rw [h2, show vErr vars u = 0 from if_pos hv]
    exact urrefs_any vars A C L u hv.2 w h hb
  · rw [show rvL vars L v = [] from if_neg hv, show vErr vars v = 2 from if_neg hv]
    exact urrefs_out vars A L.length C v hv w
theorem UT.notUB_cells {w : World} {U : UTab} {vars : Nat} {L : List Ent} (h : UT w U vars L) {b : Nat} {cs : Array Value} {t : TypeId} {fr : Nat × Nat} (hb : w.heap[b]? = some (.cells cs t fr)) : ¬ UB U vars b := by
  rintro ⟨v, hv, rfl⟩
  obtain ⟨D, ⟨es, clock, h1, _⟩, _⟩ := h.m v hv
  rw [h1] at hb
  cases hb
theorem UT.notUB_own {w : World} {U : UTab} {vars : Nat} {L : List Ent} (h : UT w U vars L) {e : TypeId} {m : Nat} {α : Type} {f : α → List Value} {A : Option Addr} {N C : Nat} {xs : List α} (ho : Go.Tk.Own w e m f A N C xs) : ∀ a, A = some a → ¬ UB U vars a.block := by
  intro a ha
  rcases ho.own.2 with ⟨h1, _⟩ | ⟨g, cap, cur, h1, _, h2, _⟩
  · injection h1 with h1 _ _
    rw [ha] at h1; cases h1
  · injection h1 with h1 _ _
    rw [ha] at h1
    cases h1
    exact h.notUB_cells h2
/-- the entries behind a call -/
def doL (vars : Nat) (L : List Ent) (o : Opu) : List Ent := if o.k = 1 then addL vars L o.n o.r else if o.k = 2 then remL vars L o.n else L
theorem addL_len (vars : Nat) (L : List Ent) (n : Nd) (r : Int) : (addL vars L n r).length ≤ L.length + 1 := by
  unfold addL
  split
  · split
    · omega
    · simp
  · omega
theorem remL_len (vars : Nat) (L : List Ent) (n : Nd) : (remL vars L n).length ≤ L.length := by
  unfold remL
  split
  · split
    · exact List.length_filter_le _ _
    · omega
  · omega
theorem doL_len (vars : Nat) (L : List Ent) (o : Opu) : (doL vars L o).length ≤ L.length + 1 := by
  unfold doL
  split
  · exact addL_len _ _ _ _
  · split
    · have := remL_len vars L o.n; omega
    · omega
end Go.Proofs.Ytkelbbalffijbaa


/- Layer 07: UniqueMany's node. -/
namespace Go.Proofs.Ytkelbbalffijbaa
open Go.RowKit Go.Tk Go.Maps

/-- the node of a number -/
def nodeOf (N s t i : Nat) : Nd := ⟨((i % N : Nat) : Int), ((i * s % 4294967296 : Nat) : Int), ((i * t % 4294967296 : Nat) : Int)⟩
theorem wf_u32 {x : Nat} (h : x < 4294967296) : (Lit.int .u32 (x : Int)).wf = true := by
  simp [Lit.wf, IntKind.min, IntKind.max, IntKind.signed, IntKind.bits]
  omega
theorem wf_i64 {x : Nat} (h : x < 9223372036854775808) : (Lit.int .i64 (x : Int)).wf = true := by
  simp [Lit.wf, IntKind.min, IntKind.max, IntKind.signed, IntKind.bits]
  omega
theorem nodeOf_ok {N s t i : Nat} (hN : 0 < N) (hN2 : N ≤ 64) : (nodeOf N s t i).ok := by
  have := Nat.mod_lt i hN
  exact ⟨wf_i64 (by omega), wf_u32 (Nat.mod_lt _ (by decide)), wf_u32 (Nat.mod_lt _ (by decide))⟩
theorem nodeOf_v {N s t i : Nat} (hN : 0 < N) : 0 ≤ (nodeOf N s t i).v ∧ (nodeOf N s t i).v < N := by
  have := Nat.mod_lt i hN
  unfold nodeOf
  simp only
  omega
set_option maxRecDepth 100000 in
set_option maxHeartbeats 2000000 in
theorem node_any (N s t i S T V : Nat) (hN : 0 < N) (hN2 : N ≤ 64) (hi : i < 4294967296) (w : World) (hs : Blk w S 33 #[.int .u32 s]) (ht : Blk w T 33 #[.int .u32 t]) (hv : Blk w V 3 #[.int .i64 N]) :
    Calls Try.prog 19 #[.int .i64 i, .pointer (some ⟨S, 0, none⟩), .pointer (some ⟨T, 0, none⟩), .pointer (some ⟨V, 0, none⟩)] w fun e w' => e = .returned (nodeOf N s t i).val ∧ Same w w' := by
  go_enter Try.func19, Try.ntmps19
  go_upto_region 1 with fail
  refine wp_world fun w1 hw1 => ?_
  have hs1 : Same w w1 := by rw [hw1]; exact (Frm.refl _ _).alloc _
  have hR : Blk w1 w.heap.size 36 #[.int .i64 0, .int .u32 0, .int .u32 0] := by rw [hw1]; exact Blk.new _ _ _
  obtain ⟨R, hRR⟩ : ∃ z, z = w.heap.size := ⟨_, rfl⟩
  rw [← hRR] at hR ⊢
  have hS := hs.frm hs1 id
  have hT := ht.frm hs1 id
  have hV := hv.frm hs1 id
  have cS : w1.cell? ⟨S, 0, none⟩ = some (.int .u32 s) := hS.cell 0
  have cT : w1.cell? ⟨T, 0, none⟩ = some (.int .u32 t) := hT.cell 0
  have lS := hS.lt
  have lT := hT.lt
  have HV := Lib.hid hV
  have HR := Lib.hid hR
  have HS1 := Lib.hid hs1
  have hlo : w.heap.size ≤ R := Nat.le_of_eq hRR.symm
  have e1 : IntKind.u32.wrap (i : Int) = i := by rw [IntWalk.u32_in _ (by omega)]
  have e2 : IntKind.u32.wrap ((i : Int) * s) = ((i * s % 4294967296 : Nat) : Int) := by rw [← Int.natCast_mul]; rfl
  have e3 : IntKind.u32.wrap ((i : Int) * t) = ((i * t % 4294967296 : Nat) : Int) := by rw [← Int.natCast_mul]; rfl
  clear hw1 hs1 hR hS hT hV hRR hs ht hv
  refine wp_quiet (by kernel_rfl) (by kernel_rfl) ?_
  repeat (any_goals (first | go_big_quiet_step (fail) | quiet_step (fail)))
  refine wpQuiet_nil ?_
  rintro w2 ⟨p, hp⟩
  have HS2 := Lib.hid (show Same w1 w2 by rw [hp]; exact more_same _ _)
  clear hp cS cT lS lT
  have cV : w2.cell? ⟨V, 0, none⟩ = some (.int .i64 N) := (HV.out.frm HS2.out id).cell 0
  have lV := (HV.out.frm HS2.out id).lt
  have hR2 := HR.out.frm HS2.out id
  have c0 := hR2.cell 0
  have c1 := hR2.cell 1
  have c2 := hR2.cell 2
  have f0 := hR2.free 0
  have f1 := hR2.free 1
  have f2 := hR2.free 2
  have lR := hR2.lt
  have hmod : Int.tmod (i : Int) N = ((i % N : Nat) : Int) := Int.ofNat_tmod i N
  have hN0 : ¬ (N : Int) = 0 := by omega
  have hw0 := IntWalk.i64_in ((i % N : Nat) : Int) (by have := Nat.mod_lt i hN; omega)
  have H2 := Lib.hid hR2
  clear hR2
  have q0 := H2.out.set 0 (.int .i64 ((i : Int) % N))
  have q1 := q0.set 1 (.int .u32 ((i : Int) * s % 4294967296))
  have q2 := q1.set 2 (.int .u32 ((i : Int) * t % 4294967296))
  have d0 := (q2.cell 0).trans (show _ = some (.int .i64 ((i : Int) % N)) from by simp)
  have d1 := (q2.cell 1).trans (show _ = some (.int .u32 ((i : Int) * s % 4294967296)) from by simp)
  have d2 := (q2.cell 2).trans (show _ = some (.int .u32 ((i : Int) * t % 4294967296)) from by simp)
  have HQ := Lib.hid (And.intro d0 (And.intro d1 d2))
  clear q0 q1 q2 d0 d1 d2
  go_wp2
  refine wp_post fun w3 hw3 => ?_
  have hf : Same w w3 := by rw [hw3]; exact (((HS1.out.trans HS2.out (fun _ _ h => h)).setNew 0 _ hlo).setNew 1 _ hlo).setNew 2 _ hlo
  have h3 := HQ.out
  rw [← hw3] at h3
  obtain ⟨d0, d1, d2⟩ := h3
  clear hw3
  refine bodyPost_ret (v := (nodeOf N s t i).val) (by simp [results, Try.results19, go_sem, Nd.val, nodeOf, d0, d1, d2]) rfl ?_
  exact ⟨rfl, hf⟩
end Go.Proofs.Ytkelbbalffijbaa


/- Layer 07: the entries of UniqueMany, in plain words. -/
namespace Go.Proofs.Ytkelbbalffijbaa
open Go.RowKit Go.Tk Go.Maps

/-- the entries of the numbers that stand -/
def entsP (K : Nat → Nd) (P : Nat → Bool) (c : Nat) : List Ent := ((List.range c).filter P).map fun j => (K j, (j : Int))
def firstN (K : Nat → Nd) (i : Nat) : Bool := decide (∀ j, j < i → K j ≠ K i)
def stays (K : Nat → Nd) (i j : Nat) : Bool := firstN K j && (decide (j % 2 = 0) || decide (i ≤ j))
theorem entsP_mem {K : Nat → Nd} {P : Nat → Bool} {c : Nat} {p : Ent} : p ∈ entsP K P c ↔ ∃ j, j < c ∧ P j = true ∧ p = (K j, (j : Int)) := by
  unfold entsP
  rw [List.mem_map]
  constructor
  · rintro ⟨j, hj, rfl⟩
    obtain ⟨h1, h2⟩ := List.mem_filter.1 hj
    exact ⟨j, List.mem_range.1 h1, h2, rfl⟩
  · rintro ⟨j, h1, h2, rfl⟩
    exact ⟨j, List.mem_filter.2 ⟨List.mem_range.2 h1, h2⟩, rfl⟩
theorem entsP_snoc {K : Nat → Nd} {P : Nat → Bool} {c : Nat} : entsP K P (c + 1) = entsP K P c ++ if P c = true then [(K c, (c : Int))] else [] := by
  unfold entsP
  rw [List.range_succ, List.filter_append, List.map_append]
  by_cases h : P c = true
  · rw [if_pos h, List.filter_cons, if_pos h]; rfl
  · rw [if_neg h, List.filter_cons, if_neg h]; rfl
theorem entsP_len {K : Nat → Nd} {P : Nat → Bool} {c : Nat} : (entsP K P c).length ≤ c := by
  unfold entsP
  rw [List.length_map]
  exact Nat.le_trans (List.length_filter_le _ _) (by simp)
theorem entsP_congr {K : Nat → Nd} {P Q : Nat → Bool} {c : Nat} (h : ∀ j, j < c → P j = Q j) : entsP K P c = entsP K Q c := by
  unfold entsP
  rw [List.filter_congr fun j hj => h j (List.mem_range.1 hj)]
theorem first_of {K : Nat → Nd} {i : Nat} (h : firstN K i = true) : ∀ j, j < i → K j ≠ K i := by simpa [firstN] using h
theorem not_first {K : Nat → Nd} : ∀ {i : Nat}, ¬ firstN K i = true → ∃ j, j < i ∧ K j = K i ∧ firstN K j = true := by
  intro i
  induction i using Nat.strongRecOn with
  | _ i ih =>
    intro h
    simp [firstN] at h
    obtain ⟨j, hj, he⟩ := h
    by_cases hf : firstN K j = true
    · exact ⟨j, hj, he, hf⟩
    · obtain ⟨k, hk, hke, hkf⟩ := ih j hj hf
      exact ⟨k, by omega, hke.trans he, hkf⟩
theorem first_inj {K : Nat → Nd} {i j : Nat} (hi : firstN K i = true) (hj : firstN K j = true) (e : K i = K j) : i = j := by
  rcases Nat.lt_trichotomy i j with h | h | h
  · exact absurd e (first_of hj i h)
  · exact h
  · exact absurd e.symm (first_of hi j h)
theorem look_first {K : Nat → Nd} {i : Nat} (h : firstN K i = true) : look (entsP K (firstN K) i) (K i) = none :=
  look_none.2 fun hk => by
    obtain ⟨r, hr⟩ := mem_keys.1 hk
    obtain ⟨j, hj, _, e⟩ := entsP_mem.1 hr
    injection e with e1 e2
    exact first_of h j hj e1.symm
theorem look_again {K : Nat → Nd} {i : Nat} (hn : (keys (entsP K (firstN K) i)).Nodup) (h : ¬ firstN K i = true) : ∃ j : Nat, j < i ∧ K j = K i ∧ look (entsP K (firstN K) i) (K i) = some (j : Int) := by
  obtain ⟨j, hj, he, hf⟩ := not_first h
  exact ⟨j, hj, he, look_some hn (entsP_mem.2 ⟨j, hj, hf, by rw [he]⟩)⟩
theorem without_ents {K : Nat → Nd} {i c : Nat} (hf : firstN K i = true) (ho : i % 2 = 1) : without (K i) (entsP K (stays K i) c) = entsP K (stays K (i + 1)) c := by
  unfold without entsP
  rw [List.filter_map, List.filter_filter]
  congr 1
  refine List.filter_congr fun j _ => ?_
  simp only [Function.comp]
  by_cases e : j = i
  · subst e
    simp [stays, ho]
  · by_cases hj : firstN K j = true
    · have hne : K j ≠ K i := fun e2 => e (first_inj hj hf e2)
      have : (i + 1 ≤ j) = (i ≤ j) := by apply propext; omega
      simp [stays, hj, hne, this]
    · simp [stays, hj]
theorem stays_same {K : Nat → Nd} {i c : Nat} (h : ¬ (i % 2 = 1 ∧ firstN K i = true)) : entsP K (stays K i) c = entsP K (stays K (i + 1)) c := by
  refine entsP_congr fun j _ => ?_
  by_cases e : j = i
  · subst e
    by_cases hf : firstN K j = true
    · have : j % 2 = 0 := by
        have := Nat.mod_two_eq_zero_or_one j
        rcases this with h1 | h1
        · exact h1
        · exact absurd ⟨h1, hf⟩ h
      simp [stays, this]
    · simp [stays, hf]
  · have : (i + 1 ≤ j) = (i ≤ j) := by apply propext; omega
    simp [stays, this]
theorem stays_zero {K : Nat → Nd} {c : Nat} : entsP K (firstN K) c = entsP K (stays K 0) c := entsP_congr fun j _ => by simp [stays]
theorem look_odd {K : Nat → Nd} {i c : Nat} (hi : i < c) (hn : (keys (entsP K (stays K i) c)).Nodup) (hf : firstN K i = true) : look (entsP K (stays K i) c) (K i) = some (i : Int) :=
  look_some hn (entsP_mem.2 ⟨i, hi, by simp [stays, hf], rfl⟩)
/-- what stands in the end -/
def endsN (K : Nat → Nd) (j : Nat) : Bool := firstN K j && decide (j % 2 = 0)
theorem stays_end {K : Nat → Nd} {c : Nat} : entsP K (stays K c) c = entsP K (endsN K) c := entsP_congr fun j hj => by
  have : ¬ c ≤ j := by omega
  simp [stays, endsN, this]
theorem look_end {K : Nat → Nd} {i c : Nat} (hi : i < c) (hn : (keys (entsP K (endsN K) c)).Nodup) (hf : firstN K i = true) : look (entsP K (endsN K) c) (K i) = if i % 2 = 0 then some (i : Int) else none := by
  by_cases he : i % 2 = 0
  · rw [if_pos he]
    exact look_some hn (entsP_mem.2 ⟨i, hi, by simp [endsN, hf, he], rfl⟩)
  · rw [if_neg he]
    refine look_none.2 fun hk => ?_
    obtain ⟨r, hr⟩ := mem_keys.1 hk
    obtain ⟨j, hj, hp, e⟩ := entsP_mem.1 hr
    injection e with e1 e2
    simp [endsN] at hp
    have := first_inj hf hp.1 e1
    omega
/-- how many stand at a variable, up to a number -/
def leftN (K : Nat → Nd) (v i : Nat) : Nat := ((List.range i).filter fun j => endsN K j && decide ((K j).v = (v : Int))).length
theorem leftN_succ {K : Nat → Nd} {v i : Nat} : leftN K v (i + 1) = leftN K v i + if endsN K i = true ∧ (K i).v = (v : Int) then 1 else 0 := by
  unfold leftN
  rw [List.range_succ, List.filter_append, List.length_append, List.filter_cons]
  by_cases h : endsN K i = true ∧ (K i).v = (v : Int)
  · rw [if_pos h, if_pos (by simp [h])]; rfl
  · rw [if_neg h, if_neg (by simp; intro h1 h2; exact h ⟨h1, h2⟩)]; rfl
theorem leftN_le {K : Nat → Nd} {v i : Nat} : leftN K v i ≤ i := by
  unfold leftN
  exact Nat.le_trans (List.length_filter_le _ _) (by simp)
theorem ofv_ents {K : Nat → Nd} {P : Nat → Bool} {c v : Nat} : ofv (entsP K P c) v = entsP K (fun j => P j && decide ((K j).v = (v : Int))) c := by
  unfold ofv entsP
  rw [List.filter_map, List.filter_filter]
  congr 1
  refine List.filter_congr fun j _ => ?_
  simp only [Function.comp]
  exact Bool.and_comm _ _
theorem ends_len {K : Nat → Nd} {c v : Nat} : (ofv (entsP K (endsN K) c) v).length = leftN K v c := by
  rw [ofv_ents]; unfold entsP leftN; rw [List.length_map]
theorem rising_ents {K : Nat → Nd} {P : Nat → Bool} {c : Nat} : (rising (entsP K P c)).Pairwise (· < ·) := by
  have h1 : ((entsP K P c).map (·.2)).Pairwise (· < ·) := by
    unfold entsP
    rw [List.map_map, List.pairwise_map]
    refine List.Pairwise.imp (R := (· < ·)) (fun {a b} h => by simp; exact h) ?_
    exact (List.pairwise_lt_range).sublist List.filter_sublist
  unfold rising
  rw [List.mergeSort_of_pairwise]
  · exact h1
  · exact h1.imp fun {a b} h => by simp <;> omega
theorem rise_at {xs : List Int} (h : xs.Pairwise (· < ·)) {i : Nat} {x y : Int} (h1 : xs[i]? = some x) (h2 : xs[i + 1]? = some y) : x < y := by
  obtain ⟨l1, e1⟩ := List.getElem?_eq_some_iff.1 h1
  obtain ⟨l2, e2⟩ := List.getElem?_eq_some_iff.1 h2
  have := List.pairwise_iff_getElem.1 h i (i + 1) l1 l2 (by omega)
  rwa [e1, e2] at this
end Go.Proofs.Ytkelbbalffijbaa


/- Layer 07: awake. -/
namespace Go.Proofs.Ytkelbbalffijbaa
open Go.RowKit Go.Tk Go.Maps

def n012 : Nd := ⟨0, 1, 2⟩
theorem n012_ok : n012.ok := by unfold n012 Nd.ok; decide
set_option maxRecDepth 100000 in
set_option maxHeartbeats 4000000 in
theorem uqawake_any (w : World) : Calls Try.prog 8 #[] w fun e w' => e = .returned (.bool true) ∧ Same w w' := by
  go_enter Try.func8, Try.ntmps8
  go_wp2_with (fail)
  refine (uqnew_any 3 (by decide) (by decide) w).mono ?_
  rintro e w1 ⟨U, rfl, hs1, h1, hT, hsb, hmb⟩
  have HS1 := Lib.hid hs1
  have H1 := Lib.hid h1
  have HMB := Lib.hid hmb
  clear hs1 h1 hT hsb hmb
  go_wp2_with (fail)
  refine call_world fun w2 hw2 => ?_
  have hs2 : Same w1 w2 := by rw [hw2]; exact (Frm.refl _ _).alloc _
  have hX : Blk w2 w1.heap.size 36 #[.int .i64 0, .int .u32 1, .int .u32 2] := by rw [hw2]; exact Blk.new _ _ _
  have hlo : ∀ v, v < 3 → U.mb v < w1.heap.size := fun v hv => (H1.out.m v hv).lt
  obtain ⟨X, hXX⟩ : ∃ z, z = w1.heap.size := ⟨_, rfl⟩
  rw [← hXX] at hX hlo ⊢
  have hnX : ¬ UB U 3 X := fun ⟨v, hv, e⟩ => by have := hlo v hv; omega
  have HNX := Lib.hid hnX
  have HX := Lib.hid hX
  have HS2 := Lib.hid (HS1.out.trans hs2 (fun _ _ h => h))
  have H2 := Lib.hid (H1.out.same hs2)
  clear hs2 hX hlo hXX hnX hw2
  refine (uqadd_any U 3 [] n012 n012_ok 7 (by decide) (by decide) w2 H2.out).mono ?_
  rw [show addE 3 [] n012 = 0 by decide, show addL 3 [] n012 7 = [(n012, 7)] by decide]
  rintro e w3 ⟨rfl, h3, hf3⟩
  have HF3 := Lib.hid (HS2.out.trans hf3 (fun i hi (h : UB U 3 i) => by obtain ⟨v, hv, rfl⟩ := h; have := HMB.out v hv; omega))
  have hX3 := HX.out.frm hf3 HNX.out
  have c0 : w3.cell? ⟨X, 0, none⟩ = some (.int .i64 0) := hX3.cell 0
  have c1 : w3.cell? ⟨X, 1, none⟩ = some (.int .u32 1) := hX3.cell 1
  have c2 : w3.cell? ⟨X, 2, none⟩ = some (.int .u32 2) := hX3.cell 2
  have lX := hX3.lt
  have HX3 := Lib.hid hX3
  have H3 := Lib.hid h3
  clear h3 hf3 hX3 H2 HX H1 HS1
  go_wp2_with (fail)
  refine (uqadd_any U 3 [(n012, 7)] n012 n012_ok 8 (by decide) (by decide) w3 H3.out).mono ?_
  rw [show addE 3 [(n012, 7)] n012 = 11 by decide, show addL 3 [(n012, 7)] n012 8 = [(n012, 7)] by decide]
  rintro e w4 ⟨rfl, h4, hf4⟩
  have HF4 := Lib.hid (HF3.out.trans hf4 (fun i hi (h : UB U 3 i) => by obtain ⟨v, hv, rfl⟩ := h; have := HMB.out v hv; omega))
  have hX4 := HX3.out.frm hf4 HNX.out
  have c0 : w4.cell? ⟨X, 0, none⟩ = some (.int .i64 0) := hX4.cell 0
  have c1 : w4.cell? ⟨X, 1, none⟩ = some (.int .u32 1) := hX4.cell 1
  have c2 : w4.cell? ⟨X, 2, none⟩ = some (.int .u32 2) := hX4.cell 2
  have lX := hX4.lt
  have HX4 := Lib.hid hX4
  have H4 := Lib.hid h4
  clear h4 hf4 hX4 H3 HX3
  go_wp2_with (fail)
  refine (uqfind_any U 3 [(n012, 7)] n012 n012_ok w4 H4.out).mono ?_
  rw [show look [(n012, 7)] n012 = some 7 by decide]
  rintro e w5 ⟨rfl, hs5⟩
  have HF5 := Lib.hid (HF4.out.trans hs5 (fun _ _ h => h))
  have HX5 := Lib.hid (HX4.out.frm hs5 id)
  have H5 := Lib.hid (H4.out.same hs5)
  clear hs5 H4 HX4 c0 c1 c2
  simp only [Option.getD_some, Option.isSome_some]
  go_wp2_with (fail)
  refine (uqcount_any U 3 [(n012, 7)] 0 w5 H5.out).mono ?_
  rw [show (if (0 : Int) ≤ 0 ∧ (0 : Int) < (3 : Nat) then (ofv [(n012, 7)] (0 : Int).toNat).length else 0) = 1 by decide, show vErr 3 0 = 0 by decide]
  rintro e w6 ⟨rfl, rfl⟩
  have c0 : w6.cell? ⟨X, 0, none⟩ = some (.int .i64 0) := HX5.out.cell 0
  have c1 : w6.cell? ⟨X, 1, none⟩ = some (.int .u32 1) := HX5.out.cell 1
  have c2 : w6.cell? ⟨X, 2, none⟩ = some (.int .u32 2) := HX5.out.cell 2
  have lX := HX5.out.lt
  go_wp2_with (fail)
  refine (uqrem_any U 3 [(n012, 7)] n012 n012_ok w6 H5.out).mono ?_
  rw [show remE 3 [(n012, 7)] n012 = 0 by decide, show remL 3 [(n012, 7)] n012 = [] by decide]
  rintro e w7 ⟨rfl, h7, hf7⟩
  have HF7 := Lib.hid (HF5.out.trans hf7 (fun i hi (h : UB U 3 i) => by obtain ⟨v, hv, rfl⟩ := h; have := HMB.out v hv; omega))
  have hX7 := HX5.out.frm hf7 HNX.out
  have c0 : w7.cell? ⟨X, 0, none⟩ = some (.int .i64 0) := hX7.cell 0
  have c1 : w7.cell? ⟨X, 1, none⟩ = some (.int .u32 1) := hX7.cell 1
  have c2 : w7.cell? ⟨X, 2, none⟩ = some (.int .u32 2) := hX7.cell 2
  have lX := hX7.lt
  have H7 := Lib.hid h7
  clear h7 hf7 hX7 H5 HX5
  go_wp2_with (fail)
  refine (uqrem_any U 3 [] n012 n012_ok w7 H7.out).mono ?_
  rw [show remE 3 [] n012 = 10 by decide, show remL 3 [] n012 = [] by decide]
  rintro e w8 ⟨rfl, h8, hf8⟩
  have HF8 := Lib.hid (HF7.out.trans hf8 (fun i hi (h : UB U 3 i) => by obtain ⟨v, hv, rfl⟩ := h; have := HMB.out v hv; omega))
  clear h8 hf8
  go_wp2
  go_ret
  exact ⟨rfl, HF8.out⟩
end Go.Proofs.Ytkelbbalffijbaa
