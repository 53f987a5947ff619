/- Contracts and plain laws, put together in one file. No condition. -/
import Derived.Test.YtkelbbalffijbaaJ2
import Derived.Test.YtkelbbalffijbaaProg
import Derived.Maps.RangeWalk
import Derived.Maps.OwnSet
import Derived.DeepKeys4
import Derived.KernelRfl
import Derived.Carry
import Derived.Sort.MapsRangeIn
import Derived.Sort.KeysCollected
import Derived.RangeFuncMany
import Derived.WalkKit
import Derived.OwnWalkIn
import Derived.TacticsInMore
import Derived.RegionIn
import Derived.LoopNIn
import Derived.LoopIn
import Derived.Shelf.AbstractIn
import Derived.Test.YtkelbbalffijbaaRows


/- Nodes as values. -/
namespace Go.Proofs.Ytkelbbalffijbaa
open Go.RowKit Go.Tk

/-- a node: its variable and its two children -/
structure Nd where
  v : Int
  lo : Int
  hi : Int
deriving DecidableEq, Inhabited
def Nd.cells (n : Nd) : List Value := [.int .i64 n.v, .int .u32 n.lo, .int .u32 n.hi]
def Nd.val (n : Nd) : Value := .agg #[.int .i64 n.v, .int .u32 n.lo, .int .u32 n.hi]
theorem eql_nd (x y : Nd) (w : World) : (binOp .eql 36 x.val y.val).run Try.prog w = .ok (.bool (decide (x = y))) w := by
  obtain ⟨o, a, b⟩ := x
  obtain ⟨o', a', b'⟩ := y
  unfold Nd.val
  simp only [binOp]
  by_cases h1 : o = o' <;> by_cases h2 : a = a' <;> by_cases h3 : b = b' <;> simp [Op.equal, Op.maxDepth, run_equalIn_struct, go_sem, h1, h2, h3]
theorem neq_nd (x y : Nd) (w : World) : (binOp .neq 36 x.val y.val).run Try.prog w = .ok (.bool (!decide (x = y))) w := by
  obtain ⟨o, a, b⟩ := x
  obtain ⟨o', a', b'⟩ := y
  unfold Nd.val
  simp only [binOp]
  by_cases h1 : o = o' <;> by_cases h2 : a = a' <;> by_cases h3 : b = b' <;> simp [Op.equal, Op.maxDepth, run_equalIn_struct, go_sem, h1, h2, h3]
end Go.Proofs.Ytkelbbalffijbaa


/- Nodes as keys of a map. -/
namespace Go.Proofs.Ytkelbbalffijbaa
open Go.RowKit Go.Maps

def Nd.ok (n : Nd) : Prop := (Lit.int .i64 n.v).wf = true ∧ (Lit.int .u32 n.lo).wf = true ∧ (Lit.int .u32 n.hi).wf = true
def Nd.key (n : Nd) : Lit := .string (keyBytes [.int .i64 n.v, .int .u32 n.lo, .int .u32 n.hi])
theorem Nd.isKey (n : Nd) : WideAt.IsKeyLit n.key := trivial
theorem nd_laid : laidOutB Try.prog = true := by kernel_rfl
theorem nd_wide : (match Try.prog.underlying 36 with | some (.array _ _) | some (.struct _) => true | _ => false) = true := by kernel_rfl
theorem nd_row : (36 : TypeId) < Try.prog.types.size := of_decide_eq_true (by kernel_rfl)
theorem KN : Keyed Try.prog 36 := Keyed.of_law (deep_law_laid nd_laid (m := 2) (by omega) nd_row (by kernel_rfl) nd_wide)
theorem nd_ncells : Try.prog.cellsOf 36 = 3 := by kernel_rfl
theorem nd_c1 : Try.prog.cellsOf 3 = 1 := by kernel_rfl
theorem nd_c2 : Try.prog.cellsOf 34 = 1 := by kernel_rfl
theorem nd_formed (n : Nd) : n.val.formed Try.prog 36 = true := by
  simp [Nd.val, Value.formed, Try.underlying36, nd_ncells]
theorem nd_lit1 {d : Nat} {t : TypeId} {q : IntKind} (ht : Try.prog.underlying t = some (.int q)) (v : Int) : Try.prog.keyLits (d + 1) t [.int q v] = if (Lit.int q v).wf = true then some [.int q v] else none := by
  simp [Program.keyLits, ht]
theorem nd_lit1_inv {d : Nat} {t : TypeId} {q : IntKind} (ht : Try.prog.underlying t = some (.int q)) {a : Value} {L : List Lit} (h : Try.prog.keyLits (d + 1) t [a] = some L) : ∃ v, a = .int q v ∧ (Lit.int q v).wf = true ∧ L = [.int q v] := by
  unfold Program.keyLits at h
  rw [ht] at h
  cases a <;> simp at h
  obtain ⟨⟨rfl, hw⟩, rfl⟩ := h
  exact ⟨_, rfl, hw, rfl⟩
theorem nd_lits (d : Nat) (a b c : Value) : Try.prog.keyLits (d + 2) 36 [a, b, c] = (Try.prog.keyLits (d + 1) 3 [a]).bind fun x => (Try.prog.keyLits (d + 1) 34 [b]).bind fun y => (Try.prog.keyLits (d + 1) 34 [c]).bind fun z => some (x ++ (y ++ z)) := by
  generalize hK : Try.prog.keyLits (d + 1) = K
  rw [show d + 2 = (d + 1) + 1 from rfl]
  conv => lhs; unfold Program.keyLits
  rw [hK]
  simp only [Try.underlying36]
  simp [nd_ncells, nd_c1, nd_c2]
  cases K 3 [a] <;> simp
  cases K 34 [b] <;> simp
  cases K 34 [c] <;> simp
theorem nd_depth : ∃ d, Try.prog.types.size + 1 = d + 2 := ⟨Try.prog.types.size - 1, by have h := nd_row; have : (0 : Nat) < Try.prog.types.size := Nat.lt_of_le_of_lt (Nat.zero_le _) h; omega⟩
theorem nd_key {n : Nd} (h : n.ok) : keyOf Try.prog 36 n.val = some n.key := by
  unfold keyOf
  rw [Try.underlying36]
  have hk : Try.prog.keyType 36 = true := by kernel_rfl
  simp only [hk, nd_formed, Bool.and_self, if_true]
  obtain ⟨d, hd⟩ := nd_depth
  rw [hd]
  obtain ⟨h1, h2, h3⟩ := h
  show Option.map _ (Try.prog.keyLits (d + 2) 36 [_, _, _]) = _
  rw [nd_lits, nd_lit1 Try.underlying3, nd_lit1 Try.underlying34, nd_lit1 Try.underlying34, if_pos h1, if_pos h2, if_pos h3]
  rfl
theorem nd_len {d : Nat} {cs : List Value} {L : List Lit} (h : Try.prog.keyLits (d + 2) 36 cs = some L) : cs.length = 3 := by
  generalize hK : Try.prog.keyLits (d + 1) = K at h
  rw [show d + 2 = (d + 1) + 1 from rfl] at h
  unfold Program.keyLits at h
  rw [hK] at h
  simp only [Try.underlying36, nd_ncells] at h
  split at h
  · rename_i hc; exact hc.1
  · cases h
set_option maxRecDepth 100000 in
theorem nd_key_inv {key : Value} {kl : Lit} (h : keyOf Try.prog 36 key = some kl) : ∃ n : Nd, n.ok ∧ key = n.val ∧ kl = n.key := by
  obtain ⟨xs, L, rfl, hL, rfl⟩ := keyOf_top nd_wide h
  clear h
  obtain ⟨d, hd⟩ := nd_depth
  rw [hd] at hL
  have h3 := nd_len hL
  obtain ⟨l⟩ := xs
  match l, h3, hL with
  | [a, b, c], _, hL =>
    rw [nd_lits] at hL
    obtain ⟨x, hx, hL⟩ := Option.bind_eq_some_iff.1 hL
    obtain ⟨y, hy, hL⟩ := Option.bind_eq_some_iff.1 hL
    obtain ⟨z, hz, hL⟩ := Option.bind_eq_some_iff.1 hL
    obtain ⟨v, rfl, h1, rfl⟩ := nd_lit1_inv Try.underlying3 hx
    obtain ⟨p, rfl, h2, rfl⟩ := nd_lit1_inv Try.underlying34 hy
    obtain ⟨q, rfl, h3, rfl⟩ := nd_lit1_inv Try.underlying34 hz
    cases hL
    exact ⟨⟨v, p, q⟩, ⟨h1, h2, h3⟩, rfl, rfl⟩
theorem nd_key_inj {a b : Nd} (ha : a.ok) (hb : b.ok) (h : a.key = b.key) : a = b := by
  have := KN.inj (nd_key ha) (h ▸ nd_key hb)
  simp only [Nd.val] at this
  cases a; cases b
  simp_all
end Go.Proofs.Ytkelbbalffijbaa


/- Maps from nodes to integers, as lists. -/
namespace Go.Tk
open Go.RowKit Go.Maps
theorem ownsMap_tight {H : Type} {P : Program} {k : TypeId} {R : Value → Option (DataW H × List MemPlace)} {w : World} {b n : Nat} {D : DataW H} (h : w.ownsMap P k R b n D) : w.ownsMap P k R b (Maps.size D) D := by
  obtain ⟨es, clock, hb, F, hs, rfl⟩ := h
  exact ⟨es, clock, hb, F, by show es.size ≤ (List.foldr DataW.insert [] _).length; rw [length_sorted]; simp, rfl⟩
theorem ownsMap_frame {H : Type} {P : Program} {k : TypeId} {R : Value → Option (DataW H × List MemPlace)} {w w' : World} {b n : Nat} {D : DataW H} {S : Nat → Prop} (h : w.ownsMap P k R b n D) (hf : Frm S w w') (hS : ¬ S b) : w'.ownsMap P k R b n D := by
  have hlt := h.lt
  obtain ⟨es, clock, hb, rest⟩ := h
  exact ⟨es, clock, (hf.block b hlt hS).trans hb, rest⟩
end Go.Tk
namespace Go.Proofs.Ytkelbbalffijbaa
open Go.RowKit Go.Tk Go.Maps

abbrev Ent := Nd × Int
def keys (L : List Ent) : List Nd := L.map (·.1)
/-- the datum holds just the entries of the list -/
structure NRel (q : IntKind) (D : DataW Unit) (L : List Ent) : Prop where
  nd : (keys L).Nodup
  ok : ∀ p ∈ L, p.1.ok ∧ (Lit.int q p.2).wf = true
  dom : ∀ n : Nd, n.ok → (Maps.has D n.key = true ↔ n ∈ keys L)
  val : ∀ p ∈ L, ∀ z, D.atKey p.1.key z = .lit (.int q p.2)
  size : Maps.size D = L.length
theorem mem_keys {L : List Ent} {n : Nd} : n ∈ keys L ↔ ∃ r, (n, r) ∈ L := by
  unfold keys
  rw [List.mem_map]
  constructor
  · rintro ⟨⟨a, r⟩, h, rfl⟩; exact ⟨r, h⟩
  · rintro ⟨r, h⟩; exact ⟨_, h, rfl⟩
theorem NRel.made (q : IntKind) : NRel q (.map []) [] := ⟨List.nodup_nil, by simp, fun n _ => by simp [keys]; rfl, by simp, rfl⟩
theorem NRel.put {q : IntKind} {D : DataW Unit} {L : List Ent} (h : NRel q D L) (ht : Tidy D) (hm : IsMap D) {n : Nd} {r : Int} (hn : n.ok) (hr : (Lit.int q r).wf = true) (hnew : n ∉ keys L) : NRel q (D.put n.key (.lit (.int q r))) (L ++ [(n, r)]) := by
  have hno : ∀ m : Nd, m.ok → m ≠ n → m.key ≠ n.key := fun m hm hne e => hne (nd_key_inj hm hn e)
  have hfalse : Maps.has D n.key = false := by
    rcases hh : Maps.has D n.key with _ | _
    · rfl
    · exact absurd ((h.dom n hn).1 hh) hnew
  refine ⟨?_, ?_, ?_, ?_, ?_⟩
  · have : keys (L ++ [(n, r)]) = keys L ++ [n] := by simp [keys]
    rw [this, List.nodup_append]
    exact ⟨h.nd, by simp, fun a ha b hb e => hnew (by simp at hb; rw [← hb, ← e]; exact ha)⟩
  · intro p hp
    rcases List.mem_append.1 hp with hp | hp
    · exact h.ok p hp
    · obtain rfl := List.mem_singleton.1 hp
      exact ⟨hn, hr⟩
  · intro m hmo
    have : keys (L ++ [(n, r)]) = keys L ++ [n] := by simp [keys]
    rw [this, List.mem_append, List.mem_singleton]
    by_cases e : m = n
    · subst e
      exact ⟨fun _ => .inr rfl, fun _ => has_put_same hm m.isKey _⟩
    · rw [has_put_other (hno m hmo e), h.dom m hmo]
      exact ⟨.inl, fun h => h.elim id (fun h => absurd h e)⟩
  · intro p hp z
    rcases List.mem_append.1 hp with hp | hp
    · rw [atKey_put_other (hno p.1 (h.ok p hp).1 (fun e => hnew (e ▸ mem_keys.2 ⟨p.2, hp⟩)))]
      exact h.val p hp z
    · obtain rfl := List.mem_singleton.1 hp
      exact atKey_put_same hm n.isKey _ z
  · rw [size_put ht, hfalse, h.size]; simp
theorem NRel.set {q : IntKind} {D : DataW Unit} {L L' : List Ent} (h : NRel q D L) (ht : Tidy D) (hm : IsMap D) {n : Nd} {r : Int} (hn : n.ok) (hr : (Lit.int q r).wf = true) (hold : n ∈ keys L) (hL : L' = L.map fun p => if p.1 = n then (n, r) else p) : NRel q (D.put n.key (.lit (.int q r))) L' := by
  have hno : ∀ m : Nd, m.ok → m ≠ n → m.key ≠ n.key := fun m hm hne e => hne (nd_key_inj hm hn e)
  have hk : keys L' = keys L := by
    rw [hL]
    unfold keys
    rw [List.map_map]
    refine List.map_congr_left fun p _ => ?_
    by_cases e : p.1 = n
    · simp [e]
    · simp [e]
  refine ⟨by rw [hk]; exact h.nd, ?_, ?_, ?_, ?_⟩
  · intro p hp
    rw [hL] at hp
    obtain ⟨p0, hp0, rfl⟩ := List.mem_map.1 hp
    by_cases e : p0.1 = n
    · rw [if_pos e]; exact ⟨hn, hr⟩
    · rw [if_neg e]; exact h.ok p0 hp0
  · intro m hmo
    rw [hk]
    by_cases e : m = n
    · subst e
      exact ⟨fun _ => hold, fun _ => has_put_same hm m.isKey _⟩
    · rw [has_put_other (hno m hmo e), h.dom m hmo]
  · intro p hp z
    rw [hL] at hp
    obtain ⟨p0, hp0, rfl⟩ := List.mem_map.1 hp
    by_cases e : p0.1 = n
    · rw [if_pos e]; exact atKey_put_same hm n.isKey _ z
    · rw [if_neg e, atKey_put_other (hno p0.1 (h.ok p0 hp0).1 e)]; exact h.val p0 hp0 z
  · rw [size_put ht, (h.dom n hn).2 hold, h.size, hL]; simp
theorem nodup_filter {α : Type} {l : List α} (p : α → Bool) (h : l.Nodup) : (l.filter p).Nodup := h.sublist List.filter_sublist
def without (n : Nd) (L : List Ent) : List Ent := L.filter fun p => decide (p.1 ≠ n)
theorem keys_without (n : Nd) (L : List Ent) : keys (without n L) = (keys L).filter fun m => decide (m ≠ n) := by
  unfold keys without
  induction L with
  | nil => rfl
  | cons a L ih =>
    rw [List.filter_cons, List.map_cons, List.filter_cons]
    by_cases e : a.1 = n
    · rw [if_neg (by simp [e]), if_neg (by simp [e])]; exact ih
    · rw [if_pos (by simp [e]), if_pos (by simp [e]), List.map_cons, ih]
theorem without_len {n : Nd} : ∀ {L : List Ent}, (keys L).Nodup → n ∈ keys L → (without n L).length + 1 = L.length
  | [], _, h => by cases h
  | p :: L, hn, h => by
    obtain ⟨h1, h2⟩ := List.nodup_cons.1 (show (p.1 :: keys L).Nodup from hn)
    by_cases e : p.1 = n
    · have : without n (p :: L) = L := by
        unfold without
        rw [List.filter_cons, if_neg (by simp [e])]
        refine List.filter_eq_self.2 fun x hx => ?_
        simp
        intro hx2
        exact h1 (by rw [e, ← hx2]; exact List.mem_map_of_mem hx)
      rw [this]; rfl
    · have h3 : n ∈ keys L := by
        rcases List.mem_cons.1 (show n ∈ p.1 :: keys L from h) with h | h
        · exact absurd h.symm e
        · exact h
      have : without n (p :: L) = p :: without n L := by
        unfold without
        rw [List.filter_cons, if_pos (by simp [e])]
      rw [this, List.length_cons, List.length_cons, without_len h2 h3]
theorem NRel.del {q : IntKind} {D : DataW Unit} {L : List Ent} (h : NRel q D L) (ht : Tidy D) {n : Nd} (hn : n.ok) (hold : n ∈ keys L) : NRel q (D.del n.key) (without n L) := by
  have hno : ∀ m : Nd, m.ok → m ≠ n → m.key ≠ n.key := fun m hm hne e => hne (nd_key_inj hm hn e)
  refine ⟨by rw [keys_without]; exact nodup_filter _ h.nd, fun p hp => h.ok p ((List.mem_filter.1 hp).1), fun m hm => ?_, fun p hp z => ?_, ?_⟩
  · rw [keys_without, List.mem_filter]
    by_cases e : m = n
    · subst e
      rw [has_del_same]; simp
    · rw [has_del_other (hno m hm e), h.dom m hm]; simp [e]
  · obtain ⟨h1, h2⟩ := List.mem_filter.1 hp
    rw [atKey_del_other (hno p.1 (h.ok p h1).1 (by simpa using h2))]
    exact h.val p h1 z
  · have := size_del (k := n.key) ht
    rw [(h.dom n hn).2 hold, h.size] at this
    have h2 := without_len h.nd hold
    simp at this
    omega
theorem NRel.perm {q : IntKind} {D : DataW Unit} {L L' : List Ent} (h : NRel q D L) (hp : L.Perm L') : NRel q D L' :=
  ⟨(List.Perm.nodup_iff (hp.map Prod.fst)).1 h.nd, fun p hp' => h.ok p (hp.mem_iff.2 hp'), fun n hn => (h.dom n hn).trans (hp.map Prod.fst).mem_iff, fun p hp' => h.val p (hp.mem_iff.2 hp'), h.size.trans hp.length_eq⟩
noncomputable def refR (e : TypeId) : Value → Option (DataW Unit × List MemPlace) := plainElem Try.prog e
/-- block b is a map that holds just the entries of the list -/
def NM (e : TypeId) (q : IntKind) (w : World) (b : Nat) (L : List Ent) : Prop := ∃ D : DataW Unit, w.ownsMap Try.prog 36 (refR e) b L.length D ∧ NRel q D L
theorem NM.lt {e : TypeId} {q : IntKind} {w : World} {b : Nat} {L : List Ent} (h : NM e q w b L) : b < w.heap.size := by
  obtain ⟨D, h, _⟩ := h
  exact h.lt
theorem NM.made (e : TypeId) (q : IntKind) (w : World) : NM e q (w.alloc (.map #[] 0)) w.heap.size [] := ⟨_, World.ownsMap_made _ _ _ _, NRel.made q⟩
theorem NM.frm {e : TypeId} {q : IntKind} {w w' : World} {b : Nat} {L : List Ent} {S : Nat → Prop} (h : NM e q w b L) (hf : Frm S w w') (hS : ¬ S b) : NM e q w' b L := by
  obtain ⟨D, h1, h2⟩ := h
  exact ⟨D, ownsMap_frame h1 hf hS, h2⟩
theorem NM.perm {e : TypeId} {q : IntKind} {w : World} {b : Nat} {L L' : List Ent} (h : NM e q w b L) (hp : L.Perm L') : NM e q w b L' := by
  obtain ⟨D, h1, h2⟩ := h
  exact ⟨D, by rw [← hp.length_eq]; exact h1, h2.perm hp⟩
/-- what a list says of a node -/
def look (L : List Ent) (n : Nd) : Option Int := (L.find? fun p => decide (p.1 = n)).map (·.2)
theorem look_none {L : List Ent} {n : Nd} : look L n = none ↔ n ∉ keys L := by
  unfold look
  rw [Option.map_eq_none_iff, List.find?_eq_none, mem_keys]
  constructor
  · rintro h ⟨r, hr⟩
    have := h _ hr
    simp at this
  · rintro h ⟨m, r⟩ hp
    simp
    rintro rfl
    exact h ⟨r, hp⟩
theorem look_mem {L : List Ent} {n : Nd} {r : Int} (h : look L n = some r) : (n, r) ∈ L := by
  unfold look at h
  obtain ⟨⟨m, r'⟩, hp, rfl⟩ := Option.map_eq_some_iff.1 h
  have h1 := List.find?_some hp
  simp at h1
  subst h1
  exact List.mem_of_find?_eq_some hp
theorem pair_uniq {L : List Ent} (hn : (keys L).Nodup) {n : Nd} {r s : Int} (h1 : (n, r) ∈ L) (h2 : (n, s) ∈ L) : r = s := by
  induction L with
  | nil => cases h1
  | cons a L ih =>
    obtain ⟨ha, hn'⟩ := List.nodup_cons.1 (show (a.1 :: keys L).Nodup from hn)
    rcases List.mem_cons.1 h1 with e1 | h1 <;> rcases List.mem_cons.1 h2 with e2 | h2
    · rw [← e1] at e2; exact (Prod.mk.inj e2).2.symm
    · exact absurd (mem_keys.2 ⟨s, h2⟩) (by rw [← e1] at ha; exact ha)
    · exact absurd (mem_keys.2 ⟨r, h1⟩) (by rw [← e2] at ha; exact ha)
    · exact ih hn' h1 h2
theorem look_some {L : List Ent} (hn : (keys L).Nodup) {n : Nd} {r : Int} (h : (n, r) ∈ L) : look L n = some r := by
  rcases hh : look L n with _ | s
  · exact absurd (mem_keys.2 ⟨r, h⟩) (look_none.1 hh)
  · rw [pair_uniq hn h (look_mem hh)]
end Go.Proofs.Ytkelbbalffijbaa


/- The unique table: what it holds; check. -/
namespace Go.Proofs.Ytkelbbalffijbaa
open Go.RowKit Go.Tk Go.Maps

/-- where a table lies: its record, its slice, the map of each variable -/
structure UTab where
  T : Nat
  sb : Nat
  mb : Nat → Nat
def ofv (L : List Ent) (v : Nat) : List Ent := L.filter fun p => decide (p.1.v = (v : Int))
/-- a table of so many variables that holds just these entries -/
structure UT (w : World) (U : UTab) (vars : Nat) (L : List Ent) : Prop where
  hv : 1 ≤ vars ∧ vars ≤ 64
  t : Blk w U.T 63 #[.slice (some ⟨U.sb, 0, none⟩) vars vars]
  s : ∀ v, v < vars → w.cell? ⟨U.sb, v, none⟩ = some (.map (some (U.mb v)))
  sl : U.sb < w.heap.size
  m : ∀ v, v < vars → NM 34 .u32 w (U.mb v) (ofv L v)
  inj : ∀ u v, u < vars → v < vars → U.mb u = U.mb v → u = v
  nt : ∀ v, v < vars → U.mb v ≠ U.T ∧ U.mb v ≠ U.sb
  vs : ∀ p ∈ L, 0 ≤ p.1.v ∧ p.1.v < vars
  nd : (keys L).Nodup
def UB (U : UTab) (vars : Nat) (x : Nat) : Prop := ∃ v, v < vars ∧ x = U.mb v
theorem UT.frm {w w' : World} {U : UTab} {vars : Nat} {L : List Ent} {S : Nat → Prop} (h : UT w U vars L) (hf : Frm S w w') (h1 : ¬ S U.T) (h2 : ¬ S U.sb) (h3 : ∀ v, v < vars → ¬ S (U.mb v)) : UT w' U vars L :=
  ⟨h.hv, h.t.frm hf h1, fun v hv => (hf.cell h.sl h2).trans (h.s v hv), Nat.lt_of_lt_of_le h.sl hf.size, fun v hv => (h.m v hv).frm hf (h3 v hv), h.inj, h.nt, h.vs, h.nd⟩
theorem UT.same {w w' : World} {U : UTab} {vars : Nat} {L : List Ent} (h : UT w U vars L) (hf : Same w w') : UT w' U vars L := h.frm hf id id fun _ _ => id
/-- one map has turned -/
theorem UT.turn {w w' : World} {U : UTab} {vars : Nat} {L L' : List Ent} {v : Nat} (h : UT w U vars L) (hv : v < vars) (hf : Frm (fun x => x = U.mb v) w w') (hm : NM 34 .u32 w' (U.mb v) (ofv L' v)) (ho : ∀ u, u < vars → u ≠ v → ofv L' u = ofv L u) (hvs : ∀ p ∈ L', 0 ≤ p.1.v ∧ p.1.v < vars) (hnd : (keys L').Nodup) : UT w' U vars L' :=
  ⟨h.hv, h.t.frm hf (fun e => (h.nt v hv).1 e.symm), fun u hu => (hf.cell h.sl (fun e => (h.nt v hv).2 e.symm)).trans (h.s u hu), Nat.lt_of_lt_of_le h.sl hf.size, fun u hu => by
    by_cases e : u = v
    · subst e; exact hm
    · rw [ho u hu e]; exact (h.m u hu).frm hf (fun e2 => e (h.inj u v hu hv e2)), h.inj, h.nt, hvs, hnd⟩
/-- the error of a variable -/
def vErr (vars : Nat) (v : Int) : Int := if 0 ≤ v ∧ v < vars then 0 else 2
set_option maxRecDepth 100000 in
theorem uqcheck_any (U : UTab) (vars : Nat) (L : List Ent) (v : Int) (w : World) (h : UT w U vars L) :
    Calls Try.prog 23 #[.pointer (some ⟨U.T, 0, none⟩), .int .i64 v] w fun e w' => e = .returned (.int .i64 (vErr vars v)) ∧ w' = w := by
  have ct : w.cell? ⟨U.T, 0, none⟩ = some (.slice (some ⟨U.sb, 0, none⟩) vars vars) := h.t.cell 0
  have lt := h.t.lt
  clear h
  rcases Int.lt_or_le v 0 with h1 | h1
  · have hE : vErr vars v = 2 := if_neg (by omega)
    rw [hE]
    go_enter Try.func23, Try.ntmps23
    go_wp2
    go_ret
    exact ⟨rfl, rfl⟩
  · have h1' : ¬ v < 0 := by omega
    by_cases h2 : v < vars
    · have hE : vErr vars v = 0 := if_pos ⟨h1, h2⟩
      rw [hE]
      go_enter Try.func23, Try.ntmps23
      go_wp2
      go_ret
      exact ⟨rfl, rfl⟩
    · have hE : vErr vars v = 2 := if_neg (by omega)
      rw [hE]
      go_enter Try.func23, Try.ntmps23
      go_wp2
      go_ret
      exact ⟨rfl, rfl⟩
set_option maxRecDepth 100000 in
theorem uqcheck_nil (v : Int) (w : World) :
    Calls Try.prog 23 #[.pointer none, .int .i64 v] w fun e w' => e = .returned (.int .i64 10) ∧ w' = w := by
  go_enter Try.func23, Try.ntmps23
  go_wp2
  go_ret
  exact ⟨rfl, rfl⟩
end Go.Proofs.Ytkelbbalffijbaa


/- Operations on maps of nodes. -/
namespace Go.Proofs.Ytkelbbalffijbaa
open Go.RowKit Go.Tk Go.Maps

section
variable {o : Oper} {a : Act} {w : World} {K : Act → World → Prop} {Q : Exit → Act → World → Prop} {e : TypeId} {q : IntKind} {b : Nat} {L : List Ent}
theorem NM.tidy (h : NM e q w b L) : ∃ D, w.ownsMap Try.prog 36 (refR e) b L.length D ∧ NRel q D L ∧ Tidy D ∧ IsMap D := by
  obtain ⟨D, h1, h2⟩ := h
  exact ⟨D, h1, h2, h1.tidy KN, h1.isMap⟩
theorem dlit_inj {q : IntKind} {x y : Int} (h : (DataW.lit (.int q x) : DataW Unit) = .lit (.int q y)) : x = y := by
  simpa using h
theorem wf0 (q : IntKind) : (Lit.int q 0).wf = true := by cases q <;> decide
theorem NM.look_run (h : NM e q w b L) {t : TypeId} (ht : Try.prog.underlying t = some (.map 36 e)) (he : Try.prog.underlying e = some (.int q)) (hz : (zeroValue e).run Try.prog w = .ok (.int q 0) w) {n : Nd} (hn : n.ok) :
    (Instr.lookup t (.map (some b)) n.val true).run Try.prog w = .ok (.tuple #[.int q ((look L n).getD 0), .bool (look L n).isSome]) w := by
  obtain ⟨D, h1, h2⟩ := h
  suffices hs : ∀ (x : Int) (y : Bool), x = (look L n).getD 0 → y = (look L n).isSome → (Instr.lookup t (.map (some b)) n.val true).run Try.prog w = .ok (.tuple #[.int q x, .bool y]) w → (Instr.lookup t (.map (some b)) n.val true).run Try.prog w = .ok (.tuple #[.int q ((look L n).getD 0), .bool (look L n).isSome]) w by
    obtain ⟨v, ps, hrun, hv⟩ := h1.look_ok KN ht hz (zd := .lit (.int q 0)) (zp := []) (plainElem_int he (wf0 q)) (nd_key hn)
    obtain ⟨c, rfl, hc, _⟩ := plainElem_int_inv he hv
    have hc1 := congrArg Prod.fst hc
    simp only at hc1
    refine hs c _ ?_ ?_ hrun
    · rcases hl : look L n with _ | r
      · have hno : Maps.has D n.key = false := by
          rcases hh : Maps.has D n.key with _ | _
          · rfl
          · exact absurd ((h2.dom n hn).1 hh) (look_none.1 hl)
        rw [atKey_of_not_has hno] at hc1
        exact (dlit_inj hc1).symm
      · rw [h2.val _ (look_mem hl)] at hc1
        exact (dlit_inj hc1).symm
    · rcases hl : look L n with _ | r
      · rcases hh : Maps.has D n.key with _ | _
        · rfl
        · exact absurd ((h2.dom n hn).1 hh) (look_none.1 hl)
      · exact (h2.dom n hn).2 (mem_keys.2 ⟨r, look_mem hl⟩)
  rintro x y rfl rfl h
  exact h
theorem Own.mapLook (m x : Operand) (t : TypeId) (ho : o.op = Op.lookup t m x true) (ht : Try.prog.underlying t = some (.map 36 e)) (he : Try.prog.underlying e = some (.int q)) (hz : (zeroValue e).run Try.prog w = .ok (.int q 0) w)
    (hm : a.eval m = .map (some b)) (h : NM e q w b L) (n : Nd) (hn : n.ok) (hx : a.eval x = n.val) (hK : K (a.put o.dst (.tuple #[.int q ((look L n).getD 0), .bool (look L n).isSome])) w) : o.wp Try.prog a w K Q := by
  have hrun := h.look_run ht he hz hn
  unfold Oper.wp
  simp [execOp, ho, hm, hx, hrun, Result.andThen]
  exact hK
theorem Own.nmPut (m x v : Operand) (t : TypeId) (ho : o.op = Op.mapUpdate t m x v) (ht : Try.prog.underlying t = some (.map 36 e)) (he : Try.prog.underlying e = some (.int q))
    (hm : a.eval m = .map (some b)) (h : NM e q w b L) (hlen : L.length < maxLen) (n : Nd) (hn : n.ok) (hx : a.eval x = n.val) (r : Int) (hr : (Lit.int q r).wf = true) (hv : a.eval v = .int q r) (hnew : n ∉ keys L)
    (hK : ∀ w', NM e q w' b (L ++ [(n, r)]) → Frm (fun x => x = b) w w' → K (a.put o.dst undef) w') : o.wp Try.prog a w K Q := by
  obtain ⟨D, h1, h2, h3, h4⟩ := h.tidy
  obtain ⟨w', hrun, r1, r2⟩ := h1.store KN ht hlen (nd_key hn) (plainElem_int (H := Unit) he hr)
  unfold Oper.wp
  simp [execOp, ho, hm, hx, hv, hrun, Result.andThen]
  exact hK _ ⟨_, by rw [List.length_append]; exact r1, h2.put h3 h4 hn hr hnew⟩ ((Frm.refl _ w).grown r2.grown (fun g hg => .inl (Option.some.inj hg).symm))
theorem Own.nmSet (m x v : Operand) (t : TypeId) (ho : o.op = Op.mapUpdate t m x v) (ht : Try.prog.underlying t = some (.map 36 e)) (he : Try.prog.underlying e = some (.int q))
    (hm : a.eval m = .map (some b)) (h : NM e q w b L) (hlen : L.length < maxLen) (n : Nd) (hn : n.ok) (hx : a.eval x = n.val) (r : Int) (hr : (Lit.int q r).wf = true) (hv : a.eval v = .int q r) (hold : n ∈ keys L)
    (hK : ∀ w', NM e q w' b (L.map fun p => if p.1 = n then (n, r) else p) → Frm (fun x => x = b) w w' → K (a.put o.dst undef) w') : o.wp Try.prog a w K Q := by
  obtain ⟨D, h1, h2, h3, h4⟩ := h.tidy
  obtain ⟨w', hrun, r1, r2⟩ := h1.store KN ht hlen (nd_key hn) (plainElem_int (H := Unit) he hr)
  unfold Oper.wp
  simp [execOp, ho, hm, hx, hv, hrun, Result.andThen]
  have h5 := h2.set h3 h4 hn hr hold rfl
  refine hK _ ⟨_, ?_, h5⟩ ((Frm.refl _ w).grown r2.grown (fun g hg => .inl (Option.some.inj hg).symm))
  rw [← h5.size]
  exact ownsMap_tight r1
theorem Own.nmDel (m x : Operand) (t : TypeId) (ho : o.op = Op.call { callee := Callee.builtin Builtin.delete, args := #[m, x], argTypes := #[t, 36] }) (ht : Try.prog.underlying t = some (.map 36 e))
    (hm : a.eval m = .map (some b)) (h : NM e q w b L) (n : Nd) (hn : n.ok) (hx : a.eval x = n.val) (hold : n ∈ keys L)
    (hK : ∀ w', NM e q w' b (without n L) → Frm (fun x => x = b) w w' → K (a.put o.dst (.tuple #[])) w') : o.wp Try.prog a w K Q := by
  obtain ⟨D, h1, h2, h3, h4⟩ := h.tidy
  obtain ⟨w', hrun, r1, r2⟩ := h1.drop KN ht (nd_key hn) o.type
  unfold Oper.wp
  simp [execOp, ho, resolve, invoke, builtin, hm, hx, hrun, Result.andThen]
  have h5 := h2.del h3 hn hold
  refine hK _ ⟨_, ?_, h5⟩ ((Frm.refl _ w).grown r2.grown (fun g hg => .inl (Option.some.inj hg).symm))
  rw [← h5.size]
  exact ownsMap_tight r1
theorem Own.nmLen (m : Operand) (t : TypeId) (ho : o.op = Op.call { callee := Callee.builtin Builtin.len, args := #[m], argTypes := #[t] }) (ht : Try.prog.underlying t = some (.map 36 e))
    (hm : a.eval m = .map (some b)) (h : NM e q w b L) (hK : K (a.put o.dst (.int .i64 L.length)) w) : o.wp Try.prog a w K Q := by
  obtain ⟨D, h1, h2, h3, h4⟩ := h.tidy
  unfold Oper.wp
  simp [execOp, ho, resolve, invoke, builtin, hm, h1.len ht o.type, Result.andThen]
  rw [h2.size]
  exact hK
end
end Go.Proofs.Ytkelbbalffijbaa


/- The unique table: Find, Count. -/
namespace Go.Proofs.Ytkelbbalffijbaa
open Go.RowKit Go.Tk Go.Maps

theorem ofv_look (L : List Ent) (n : Nd) {v : Nat} (h : n.v = v) : look (ofv L v) n = look L n := by
  unfold look ofv
  rw [Maps.find_filter_keep]
  intro p hp
  simp at hp ⊢
  rw [hp, h]
theorem look_out {w : World} {U : UTab} {vars : Nat} {L : List Ent} (h : UT w U vars L) {n : Nd} (hn : ¬ (0 ≤ n.v ∧ n.v < vars)) : look L n = none :=
  look_none.2 fun hk => by
    obtain ⟨r, hr⟩ := mem_keys.1 hk
    exact hn (h.vs _ hr)
set_option maxRecDepth 100000 in
set_option maxHeartbeats 4000000 in
theorem uqfind_any (U : UTab) (vars : Nat) (L : List Ent) (n : Nd) (hn : n.ok) (w : World) (h : UT w U vars L) :
    Calls Try.prog 12 #[.pointer (some ⟨U.T, 0, none⟩), n.val] w fun e w' => e = .returned (.tuple #[.int .u32 ((look L n).getD 0), .bool (look L n).isSome]) ∧ Same w w' := by
  obtain ⟨w1, hw1⟩ : ∃ z, z = w.alloc (.cells #[.int .i64 n.v, .int .u32 n.lo, .int .u32 n.hi] 36) := ⟨_, rfl⟩
  have hs1 : Same w w1 := by rw [hw1]; exact (Frm.refl _ _).alloc _
  have hX : Blk w1 w.heap.size 36 #[.int .i64 n.v, .int .u32 n.lo, .int .u32 n.hi] := by rw [hw1]; exact Blk.new _ _ _
  have h1 := h.same hs1
  obtain ⟨X, hXX⟩ : ∃ z, z = w.heap.size := ⟨_, rfl⟩
  rw [← hXX] at hX
  have cX0 : w1.cell? ⟨X, 0, none⟩ = some (.int .i64 n.v) := hX.cell 0
  have cX1 : w1.cell? ⟨X, 1, none⟩ = some (.int .u32 n.lo) := hX.cell 1
  have cX2 : w1.cell? ⟨X, 2, none⟩ = some (.int .u32 n.hi) := hX.cell 2
  have lX := hX.lt
  have HS1 := Lib.hid hs1
  have H1 := Lib.hid h1
  have HC := Lib.hid (uqcheck_any U vars L n.v w1 h1)
  have HL : ∀ (v : Nat), n.v = v → look (ofv L v) n = look L n := fun v hv => ofv_look L n hv
  have HO := Lib.hid (fun hno => look_out h (n := n) hno)
  have HL' := Lib.hid HL
  clear hs1 h1 h HL hX
  obtain ⟨nv, nlo, nhi⟩ := n
  simp only [Nd.val] at *
  go_enter Try.func12, Try.ntmps12
  go_wp2_with (fail)
  rw [← hXX, ← hw1]
  refine HC.out.mono ?_
  rintro e w2 ⟨rfl, rfl⟩
  by_cases hv : 0 ≤ nv ∧ nv < vars
  · obtain ⟨v, rfl⟩ := Int.eq_ofNat_of_zero_le hv.1
    have hvv : v < vars := by omega
    have hE : vErr vars v = 0 := if_pos hv
    rw [hE]
    have ct : w2.cell? ⟨U.T, 0, none⟩ = some (.slice (some ⟨U.sb, 0, none⟩) vars vars) := H1.out.t.cell 0
    have lt := H1.out.t.lt
    have cs := H1.out.s v hvv
    have ls := H1.out.sl
    have hk0 : (0 : Int) ≤ v := hv.1
    have hk1 : (v : Int) < vars := hv.2
    have hm := Lib.hid (H1.out.m v hvv)
    have hl := Lib.hid (HL'.out v rfl)
    clear hv HO HL' hw1 hXX hE HC
    go_wp2
    refine wp_phS (fun _ => False) [([0, 1, 2, 3, 4, 5, 6, 7, 8], 9), ([10, 11, 12, 13], 14)] (by kernel_rfl) (by kernel_rfl) ?_
    simp only [wpPh, pick, List.map_cons, List.map_nil, List.getD_cons_zero, List.getD_cons_succ]
    have nS : ∀ b : Nat, ¬ (fun _ : Nat => False) b := fun _ h => h
    repeat (any_goals (first | go_big_quiet_step (fail) | quiet_step (fail)))
    refine wpQuiet_nil ?_
    refine effStep_plain rfl fun K hK => ?_
    obtain ⟨wd, hwd⟩ : ∃ z, z = w2.drew := ⟨_, rfl⟩
    have hsd : Same w2 wd := by rw [hwd]; exact (Frm.refl _ _).drew
    rw [← hwd]
    clear hwd
    refine Own.mapLook (.tmp 21) (.tmp 22) 64 rfl Try.underlying64 Try.underlying34 (Try.zeroValue34 _) rfl (hm.out.frm hsd id) ⟨v, nlo, nhi⟩ hn rfl ?_
    rw [hl.out]
    refine hK _ _ (Lat.mk_ hsd) ?_
    clear hK K
    repeat (any_goals (first | go_big_quiet_step (fail) | quiet_step (fail)))
    refine wpQuiet_nil ?_
    go_wp2
    go_ret2
    exact ⟨rfl, HS1.out.trans hsd (fun _ _ h => h)⟩
  · have hE : vErr vars nv = 2 := if_neg hv
    rw [hE]
    have hz := Lib.hid (HO.out hv)
    clear hw1 hXX hE HC HO HL'
    go_wp2
    go_ret2
    exact ⟨by rw [hz.out]; rfl, HS1.out⟩
set_option maxRecDepth 100000 in
theorem uqfind_nil (n : Nd) (w : World) : Calls Try.prog 12 #[.pointer none, n.val] w fun e w' => e = .returned (.tuple #[.int .u32 0, .bool false]) ∧ Same w w' := by
  obtain ⟨w1, hw1⟩ : ∃ z, z = w.alloc (.cells #[.int .i64 n.v, .int .u32 n.lo, .int .u32 n.hi] 36) := ⟨_, rfl⟩
  have hs1 : Same w w1 := by rw [hw1]; exact (Frm.refl _ _).alloc _
  have hX : Blk w1 w.heap.size 36 #[.int .i64 n.v, .int .u32 n.lo, .int .u32 n.hi] := by rw [hw1]; exact Blk.new _ _ _
  obtain ⟨X, hXX⟩ : ∃ z, z = w.heap.size := ⟨_, rfl⟩
  rw [← hXX] at hX
  have cX0 : w1.cell? ⟨X, 0, none⟩ = some (.int .i64 n.v) := hX.cell 0
  have HS1 := Lib.hid hs1
  have HC := Lib.hid (uqcheck_nil n.v w1)
  clear hs1 hX
  obtain ⟨nv, nlo, nhi⟩ := n
  simp only [Nd.val] at *
  go_enter Try.func12, Try.ntmps12
  go_wp2_with (fail)
  rw [← hXX, ← hw1]
  refine HC.out.mono ?_
  rintro e w2 ⟨rfl, rfl⟩
  clear hw1 hXX HC
  go_wp2
  go_ret2
  exact ⟨rfl, HS1.out⟩
set_option maxRecDepth 100000 in
theorem uqcount_any (U : UTab) (vars : Nat) (L : List Ent) (v : Int) (w : World) (h : UT w U vars L) :
    Calls Try.prog 13 #[.pointer (some ⟨U.T, 0, none⟩), .int .i64 v] w fun e w' => e = .returned (.tuple #[.int .i64 (if 0 ≤ v ∧ v < vars then (ofv L v.toNat).length else 0 : Nat), .int .i64 (vErr vars v)]) ∧ w' = w := by
  have HC := Lib.hid (uqcheck_any U vars L v w h)
  have ct : w.cell? ⟨U.T, 0, none⟩ = some (.slice (some ⟨U.sb, 0, none⟩) vars vars) := h.t.cell 0
  have lt := h.t.lt
  by_cases hv : 0 ≤ v ∧ v < vars
  · obtain ⟨u, rfl⟩ := Int.eq_ofNat_of_zero_le hv.1
    have hvv : u < vars := by omega
    have hE : vErr vars u = 0 := if_pos hv
    rw [if_pos hv, Int.toNat_natCast]
    have cs := h.s u hvv
    have ls := h.sl
    have hk0 : (0 : Int) ≤ u := hv.1
    have hk1 : (u : Int) < vars := hv.2
    obtain ⟨N, hN⟩ : ∃ z, z = (ofv L u).length := ⟨_, rfl⟩
    have hm := Lib.hid (h.m u hvv)
    rw [hE] at HC ⊢
    rw [← hN]
    have HN := Lib.hid hN
    clear hv h hE hN
    go_enter Try.func13, Try.ntmps13
    go_wp2_with (fail)
    refine HC.out.mono ?_
    rintro e w2 ⟨rfl, rfl⟩
    clear HC
    go_upto_region 4 with fail
    refine wp_read 7 ?_
    simp only [List.take_succ_cons, List.take_zero, List.drop_succ_cons, List.drop_zero]
    repeat (any_goals (first | go_big_quiet_step (fail) | quiet_step (fail)))
    refine wpQuiet_nil ?_
    refine wpList_plain rfl fun K hK => ?_
    refine Own.nmLen (.tmp 19) 64 rfl Try.underlying64 rfl hm.out ?_
    rw [← HN.out]
    refine hK _ _ ?_
    clear hK K
    go_wp2
    go_ret2
    exact ⟨rfl, rfl⟩
  · have hE : vErr vars v = 2 := if_neg hv
    rw [if_neg hv, hE]
    rw [hE] at HC
    clear h hE
    go_enter Try.func13, Try.ntmps13
    go_wp2_with (fail)
    refine HC.out.mono ?_
    rintro e w2 ⟨rfl, rfl⟩
    clear HC
    go_wp2
    go_ret2
    exact ⟨rfl, rfl⟩
set_option maxRecDepth 100000 in
theorem uqcount_nil (v : Int) (w : World) : Calls Try.prog 13 #[.pointer none, .int .i64 v] w fun e w' => e = .returned (.tuple #[.int .i64 0, .int .i64 10]) ∧ w' = w := by
  have HC := Lib.hid (uqcheck_nil v w)
  go_enter Try.func13, Try.ntmps13
  go_wp2_with (fail)
  refine HC.out.mono ?_
  rintro e w2 ⟨rfl, rfl⟩
  clear HC
  go_wp2
  go_ret2
  exact ⟨rfl, rfl⟩
end Go.Proofs.Ytkelbbalffijbaa


/- The unique table: Add, Remove. -/
namespace Go.Proofs.Ytkelbbalffijbaa
open Go.RowKit Go.Tk Go.Maps

theorem ofv_snoc_same {L : List Ent} {n : Nd} {r : Int} {v : Nat} (h : n.v = v) : ofv (L ++ [(n, r)]) v = ofv L v ++ [(n, r)] := by
  unfold ofv; rw [List.filter_append]; simp [h]
theorem ofv_snoc_other {L : List Ent} {n : Nd} {r : Int} {v u : Nat} (h : n.v = v) (hu : u ≠ v) : ofv (L ++ [(n, r)]) u = ofv L u := by
  unfold ofv; rw [List.filter_append]; simp [h] <;> omega
theorem ofv_without_same {L : List Ent} {n : Nd} {v : Nat} : ofv (without n L) v = without n (ofv L v) := by
  unfold ofv without; rw [List.filter_filter, List.filter_filter]
  refine List.filter_congr fun p _ => ?_
  exact Bool.and_comm _ _
theorem ofv_without_other {L : List Ent} {n : Nd} {v u : Nat} (h : n.v = v) (hu : u ≠ v) : ofv (without n L) u = ofv L u := by
  unfold ofv without; rw [List.filter_filter]
  refine List.filter_congr fun p _ => ?_
  by_cases e : p.1 = n
  · subst e; simp [h] <;> omega
  · simp [e]
theorem ofv_keys {L : List Ent} {n : Nd} {v : Nat} (h : n.v = v) : n ∈ keys (ofv L v) ↔ n ∈ keys L := by
  rw [mem_keys, mem_keys]
  constructor
  · rintro ⟨r, hr⟩; exact ⟨r, (List.mem_filter.1 hr).1⟩
  · rintro ⟨r, hr⟩; exact ⟨r, List.mem_filter.2 ⟨hr, by simp [h]⟩⟩
def addE (vars : Nat) (L : List Ent) (n : Nd) : Int := if 0 ≤ n.v ∧ n.v < vars then (if (look L n).isSome then 11 else 0) else 2
def addL (vars : Nat) (L : List Ent) (n : Nd) (r : Int) : List Ent := if 0 ≤ n.v ∧ n.v < vars then (if (look L n).isSome then L else L ++ [(n, r)]) else L
def remE (vars : Nat) (L : List Ent) (n : Nd) : Int := if 0 ≤ n.v ∧ n.v < vars then (if (look L n).isSome then 0 else 10) else 2
def remL (vars : Nat) (L : List Ent) (n : Nd) : List Ent := if 0 ≤ n.v ∧ n.v < vars then (if (look L n).isSome then without n L else L) else L
theorem UT.add {w w' : World} {U : UTab} {vars : Nat} {L : List Ent} {n : Nd} {r : Int} {v : Nat} (h : UT w U vars L) (hv : v < vars) (hn : n.v = v) (hno : look L n = none) (hm : NM 34 .u32 w' (U.mb v) (ofv L v ++ [(n, r)])) (hf : Frm (fun x => x = U.mb v) w w') : UT w' U vars (L ++ [(n, r)]) :=
  h.turn hv hf (by rw [ofv_snoc_same hn]; exact hm) (fun u _ hne => ofv_snoc_other hn hne) (fun p hp => by
    rcases List.mem_append.1 hp with hp | hp
    · exact h.vs p hp
    · obtain rfl := List.mem_singleton.1 hp
      simp only [hn]; omega) (by
    have : keys (L ++ [(n, r)]) = keys L ++ [n] := by simp [keys]
    rw [this, List.nodup_append]
    exact ⟨h.nd, by simp, fun a ha b hb e => look_none.1 hno (by simp at hb; rw [← hb, ← e]; exact ha)⟩)
theorem UT.rem {w w' : World} {U : UTab} {vars : Nat} {L : List Ent} {n : Nd} {v : Nat} (h : UT w U vars L) (hv : v < vars) (hn : n.v = v) (hm : NM 34 .u32 w' (U.mb v) (without n (ofv L v))) (hf : Frm (fun x => x = U.mb v) w w') : UT w' U vars (without n L) :=
  h.turn hv hf (by rw [ofv_without_same]; exact hm) (fun u _ hne => ofv_without_other hn hne) (fun p hp => h.vs p (List.mem_filter.1 hp).1) (by rw [keys_without]; exact nodup_filter _ h.nd)
set_option maxRecDepth 100000 in
set_option maxHeartbeats 4000000 in
theorem uqadd_any (U : UTab) (vars : Nat) (L : List Ent) (n : Nd) (hn : n.ok) (r : Int) (hr : (Lit.int .u32 r).wf = true) (hlen : L.length < maxLen) (w : World) (h : UT w U vars L) :
    Calls Try.prog 15 #[.pointer (some ⟨U.T, 0, none⟩), n.val, .int .u32 r] w fun e w' => e = .returned (.int .i64 (addE vars L n)) ∧ UT w' U vars (addL vars L n r) ∧ Frm (UB U vars) w w' := by
  obtain ⟨w1, hw1⟩ : ∃ z, z = w.alloc (.cells #[.int .i64 n.v, .int .u32 n.lo, .int .u32 n.hi] 36) := ⟨_, rfl⟩
  have hs1 : Same w w1 := by rw [hw1]; exact (Frm.refl _ _).alloc _
  have hX : Blk w1 w.heap.size 36 #[.int .i64 n.v, .int .u32 n.lo, .int .u32 n.hi] := by rw [hw1]; exact Blk.new _ _ _
  have h1 := h.same hs1
  obtain ⟨X, hXX⟩ : ∃ z, z = w.heap.size := ⟨_, rfl⟩
  rw [← hXX] at hX
  have cX0 : w1.cell? ⟨X, 0, none⟩ = some (.int .i64 n.v) := hX.cell 0
  have cX1 : w1.cell? ⟨X, 1, none⟩ = some (.int .u32 n.lo) := hX.cell 1
  have cX2 : w1.cell? ⟨X, 2, none⟩ = some (.int .u32 n.hi) := hX.cell 2
  have lX := hX.lt
  have HS1 := Lib.hid hs1
  have H1 := Lib.hid h1
  have HC := Lib.hid (uqcheck_any U vars L n.v w1 h1)
  have HLK := Lib.hid (fun (v : Nat) (hv : n.v = v) => ofv_look L n hv)
  have HKY := Lib.hid (fun (v : Nat) (hv : n.v = v) => ofv_keys (L := L) hv)
  have HLE := Lib.hid (fun (v : Nat) => Nat.lt_of_le_of_lt (List.length_filter_le (fun p : Ent => decide (p.1.v = (v : Int))) L) hlen)
  have HR := Lib.hid hr
  have HN := Lib.hid hn
  have HFIN := Lib.hid (show ∀ (v : Nat) (w2 : World), v < vars → n.v = v → look L n = none → NM 34 .u32 w2 (U.mb v) (ofv L v ++ [(n, r)]) → Frm (fun x => x = U.mb v) w1 w2 → UT w2 U vars (L ++ [(n, r)]) ∧ Frm (UB U vars) w w2 from
    fun v w2 hv hnv hno hm hf => ⟨h1.add hv hnv hno hm hf, ((Frm.refl (UB U vars) w).trans hs1 (fun _ _ h => h.elim)).trans hf (fun i _ (hi : i = U.mb v) => ⟨v, hv, hi⟩)⟩)
  clear hs1 h hX h1 hlen hr hn
  obtain ⟨nv, nlo, nhi⟩ := n
  simp only [Nd.val] at *
  by_cases hv : 0 ≤ nv ∧ nv < vars
  · obtain ⟨v, rfl⟩ := Int.eq_ofNat_of_zero_le hv.1
    have hvv : v < vars := by omega
    have hE : vErr vars v = 0 := if_pos hv
    rw [hE] at HC
    have ct : w1.cell? ⟨U.T, 0, none⟩ = some (.slice (some ⟨U.sb, 0, none⟩) vars vars) := H1.out.t.cell 0
    have lt := H1.out.t.lt
    have cs := H1.out.s v hvv
    have ls := H1.out.sl
    have hk0 : (0 : Int) ≤ v := hv.1
    have hk1 : (v : Int) < vars := hv.2
    have hm := Lib.hid (H1.out.m v hvv)
    have hl := Lib.hid (HLK.out v rfl)
    have hky := Lib.hid (HKY.out v rfl)
    have lm := H1.out.m v hvv |>.lt
    unfold addE addL
    rw [if_pos hv, if_pos hv]
    clear hv HLK HKY hE
    rcases hlk : look L ⟨v, nlo, nhi⟩ with _ | r0
    · rw [hlk] at hl
      have HNO := Lib.hid hlk
      clear hlk
      go_enter Try.func15, Try.ntmps15
      go_wp2_with (fail)
      rw [← hXX, ← hw1]
      clear hXX hw1
      refine HC.out.mono ?_
      rintro e w2 ⟨rfl, rfl⟩
      clear HC
      go_wp2
      refine wp_phS (fun _ => False) [([0, 1, 2, 3, 4, 5, 6, 7, 8], 9), ([10, 11, 12, 13], 14)] (by kernel_rfl) (by kernel_rfl) ?_
      simp only [wpPh, pick, List.map_cons, List.map_nil, List.getD_cons_zero, List.getD_cons_succ]
      have nS : ∀ b : Nat, ¬ (fun _ : Nat => False) b := fun _ h => h
      repeat (any_goals (first | go_big_quiet_step (fail) | quiet_step (fail)))
      refine wpQuiet_nil ?_
      refine effStep_plain rfl fun K hK => ?_
      obtain ⟨wd, hwd⟩ : ∃ z, z = w2.drew := ⟨_, rfl⟩
      have hsd : Same w2 wd := by rw [hwd]; exact (Frm.refl _ _).drew
      rw [← hwd]
      clear hwd
      refine Own.mapLook (.tmp 25) (.tmp 26) 64 rfl Try.underlying64 Try.underlying34 (Try.zeroValue34 _) rfl (hm.out.frm hsd id) ⟨v, nlo, nhi⟩ HN.out rfl ?_
      rw [hl.out]
      refine hK _ _ (Lat.mk_ hsd) ?_
      clear hK K
      repeat (any_goals (first | go_big_quiet_step (fail) | quiet_step (fail)))
      refine wpQuiet_nil ?_
      have ct := (hsd.cell (p := ⟨U.T, 0, none⟩) lt id).trans ct
      have cs := (hsd.cell (p := ⟨U.sb, v, none⟩) ls id).trans cs
      have cX0 := (hsd.cell (p := ⟨X, 0, none⟩) lX id).trans cX0
      have cX1 := (hsd.cell (p := ⟨X, 1, none⟩) lX id).trans cX1
      have cX2 := (hsd.cell (p := ⟨X, 2, none⟩) lX id).trans cX2
      have lt := Nat.lt_of_lt_of_le lt hsd.size
      have ls := Nat.lt_of_lt_of_le ls hsd.size
      have lX := Nat.lt_of_lt_of_le lX hsd.size
      have HSD := Lib.hid hsd
      clear hsd
      go_wp2
      refine wp_phS (fun _ => False) [([0, 1, 2, 3, 4, 5, 6, 7, 8, 9], 10)] (by kernel_rfl) (by kernel_rfl) ?_
      simp only [wpPh, pick, List.map_cons, List.map_nil, List.getD_cons_zero, List.getD_cons_succ]
      repeat (any_goals (first | go_big_quiet_step (fail) | quiet_step (fail)))
      refine wpQuiet_nil ?_
      obtain ⟨we, hwe⟩ : ∃ z, z = wd.drew := ⟨_, rfl⟩
      have hse : Same wd we := by rw [hwe]; exact (Frm.refl _ _).drew
      rw [← hwe]
      clear hwe
      refine wpList_plain rfl fun K hK => ?_
      refine Own.nmPut (.tmp 38) (.tmp 39) (.tmp 40) 64 rfl Try.underlying64 Try.underlying34 rfl ((hm.out.frm HSD.out id).frm hse id) (HLE.out v) ⟨v, nlo, nhi⟩ HN.out rfl r HR.out rfl (by rw [hky.out]; exact look_none.1 HNO.out) ?_
      intro w3 hnm hf
      refine hK _ _ ?_
      have HF := Lib.hid (HFIN.out v w3 hvv rfl HNO.out hnm (((Frm.refl _ w2).trans (HSD.out.trans hse (fun _ _ h => h)) (fun _ _ h => h.elim)).trans hf (fun _ _ h => h)))
      clear hK K hnm hf
      go_wp2
      go_ret
      exact ⟨rfl, HF.out.1, HF.out.2⟩
    · rw [hlk] at hl
      have HNO := Lib.hid hlk
      clear hlk
      go_enter Try.func15, Try.ntmps15
      go_wp2_with (fail)
      rw [← hXX, ← hw1]
      clear hXX hw1
      refine HC.out.mono ?_
      rintro e w2 ⟨rfl, rfl⟩
      clear HC
      go_wp2
      refine wp_phS (fun _ => False) [([0, 1, 2, 3, 4, 5, 6, 7, 8], 9), ([10, 11, 12, 13], 14)] (by kernel_rfl) (by kernel_rfl) ?_
      simp only [wpPh, pick, List.map_cons, List.map_nil, List.getD_cons_zero, List.getD_cons_succ]
      have nS : ∀ b : Nat, ¬ (fun _ : Nat => False) b := fun _ h => h
      repeat (any_goals (first | go_big_quiet_step (fail) | quiet_step (fail)))
      refine wpQuiet_nil ?_
      refine effStep_plain rfl fun K hK => ?_
      obtain ⟨wd, hwd⟩ : ∃ z, z = w2.drew := ⟨_, rfl⟩
      have hsd : Same w2 wd := by rw [hwd]; exact (Frm.refl _ _).drew
      rw [← hwd]
      clear hwd
      refine Own.mapLook (.tmp 25) (.tmp 26) 64 rfl Try.underlying64 Try.underlying34 (Try.zeroValue34 _) rfl (hm.out.frm hsd id) ⟨v, nlo, nhi⟩ HN.out rfl ?_
      rw [hl.out]
      refine hK _ _ (Lat.mk_ hsd) ?_
      clear hK K
      repeat (any_goals (first | go_big_quiet_step (fail) | quiet_step (fail)))
      refine wpQuiet_nil ?_
      have hfw := Lib.hid (((Frm.refl (UB U vars) w).trans HS1.out (fun _ _ h => h.elim)).trans hsd (fun _ _ h => h.elim))
      have HU := Lib.hid (H1.out.same hsd)
      clear hsd
      go_wp2
      go_ret
      exact ⟨rfl, HU.out, hfw.out⟩
  · have hE : vErr vars nv = 2 := if_neg hv
    rw [hE] at HC
    unfold addE addL
    rw [if_neg hv, if_neg hv]
    have hfw := Lib.hid ((Frm.refl (UB U vars) w).trans HS1.out (fun _ _ h => h.elim))
    clear hE hv
    go_enter Try.func15, Try.ntmps15
    go_wp2_with (fail)
    rw [← hXX, ← hw1]
    clear hXX hw1
    refine HC.out.mono ?_
    rintro e w2 ⟨rfl, rfl⟩
    clear HC
    go_wp2
    go_ret
    exact ⟨rfl, H1.out, hfw.out⟩
set_option maxRecDepth 100000 in
set_option maxHeartbeats 4000000 in
theorem uqrem_any (U : UTab) (vars : Nat) (L : List Ent) (n : Nd) (hn : n.ok) (w : World) (h : UT w U vars L) :
    Calls Try.prog 16 #[.pointer (some ⟨U.T, 0, none⟩), n.val] w fun e w' => e = .returned (.int .i64 (remE vars L n)) ∧ UT w' U vars (remL vars L n) ∧ Frm (UB U vars) w w' := by
  obtain ⟨w1, hw1⟩ : ∃ z, z = w.alloc (.cells #[.int .i64 n.v, .int .u32 n.lo, .int .u32 n.hi] 36) := ⟨_, rfl⟩
  have hs1 : Same w w1 := by rw [hw1]; exact (Frm.refl _ _).alloc _
  have hX : Blk w1 w.heap.size 36 #[.int .i64 n.v, .int .u32 n.lo, .int .u32 n.hi] := by rw [hw1]; exact Blk.new _ _ _
  have h1 := h.same hs1
  obtain ⟨X, hXX⟩ : ∃ z, z = w.heap.size := ⟨_, rfl⟩
  rw [← hXX] at hX
  have cX0 : w1.cell? ⟨X, 0, none⟩ = some (.int .i64 n.v) := hX.cell 0
  have cX1 : w1.cell? ⟨X, 1, none⟩ = some (.int .u32 n.lo) := hX.cell 1
  have cX2 : w1.cell? ⟨X, 2, none⟩ = some (.int .u32 n.hi) := hX.cell 2
  have lX := hX.lt
  have HS1 := Lib.hid hs1
  have H1 := Lib.hid h1
  have HC := Lib.hid (uqcheck_any U vars L n.v w1 h1)
  have HLK := Lib.hid (fun (v : Nat) (hv : n.v = v) => ofv_look L n hv)
  have HKY := Lib.hid (fun (v : Nat) (hv : n.v = v) => ofv_keys (L := L) hv)
  have HN := Lib.hid hn
  have HFIN := Lib.hid (show ∀ (v : Nat) (w2 : World), v < vars → n.v = v → NM 34 .u32 w2 (U.mb v) (without n (ofv L v)) → Frm (fun x => x = U.mb v) w1 w2 → UT w2 U vars (without n L) ∧ Frm (UB U vars) w w2 from
    fun v w2 hv hnv hm hf => ⟨h1.rem hv hnv hm hf, ((Frm.refl (UB U vars) w).trans hs1 (fun _ _ h => h.elim)).trans hf (fun i _ (hi : i = U.mb v) => ⟨v, hv, hi⟩)⟩)
  clear hs1 h hX h1 hn
  obtain ⟨nv, nlo, nhi⟩ := n
  simp only [Nd.val] at *
  by_cases hv : 0 ≤ nv ∧ nv < vars
  · obtain ⟨v, rfl⟩ := Int.eq_ofNat_of_zero_le hv.1
    have hvv : v < vars := by omega
    have hE : vErr vars v = 0 := if_pos hv
    rw [hE] at HC
    have ct : w1.cell? ⟨U.T, 0, none⟩ = some (.slice (some ⟨U.sb, 0, none⟩) vars vars) := H1.out.t.cell 0
    have lt := H1.out.t.lt
    have cs := H1.out.s v hvv
    have ls := H1.out.sl
    have hk0 : (0 : Int) ≤ v := hv.1
    have hk1 : (v : Int) < vars := hv.2
    have hm := Lib.hid (H1.out.m v hvv)
    have hl := Lib.hid (HLK.out v rfl)
    have hky := Lib.hid (HKY.out v rfl)
    have lm := H1.out.m v hvv |>.lt
    unfold remE remL
    rw [if_pos hv, if_pos hv]
    clear hv HLK HKY hE
    rcases hlk : look L ⟨v, nlo, nhi⟩ with _ | r0
    · rw [hlk] at hl
      have HNO := Lib.hid hlk
      clear hlk
      go_enter Try.func16, Try.ntmps16
      go_wp2_with (fail)
      rw [← hXX, ← hw1]
      clear hXX hw1
      refine HC.out.mono ?_
      rintro e w2 ⟨rfl, rfl⟩
      clear HC
      go_wp2
      refine wp_phS (fun _ => False) [([0, 1, 2, 3, 4, 5, 6, 7, 8], 9), ([10, 11, 12, 13], 14)] (by kernel_rfl) (by kernel_rfl) ?_
      simp only [wpPh, pick, List.map_cons, List.map_nil, List.getD_cons_zero, List.getD_cons_succ]
      have nS : ∀ b : Nat, ¬ (fun _ : Nat => False) b := fun _ h => h
      repeat (any_goals (first | go_big_quiet_step (fail) | quiet_step (fail)))
      refine wpQuiet_nil ?_
      refine effStep_plain rfl fun K hK => ?_
      obtain ⟨wd, hwd⟩ : ∃ z, z = w2.drew := ⟨_, rfl⟩
      have hsd : Same w2 wd := by rw [hwd]; exact (Frm.refl _ _).drew
      rw [← hwd]
      clear hwd
      refine Own.mapLook (.tmp 23) (.tmp 24) 64 rfl Try.underlying64 Try.underlying34 (Try.zeroValue34 _) rfl (hm.out.frm hsd id) ⟨v, nlo, nhi⟩ HN.out rfl ?_
      rw [hl.out]
      refine hK _ _ (Lat.mk_ hsd) ?_
      clear hK K
      repeat (any_goals (first | go_big_quiet_step (fail) | quiet_step (fail)))
      refine wpQuiet_nil ?_
      have hfw := Lib.hid (((Frm.refl (UB U vars) w).trans HS1.out (fun _ _ h => h.elim)).trans hsd (fun _ _ h => h.elim))
      have HU := Lib.hid (H1.out.same hsd)
      clear hsd
      go_wp2
      go_ret
      exact ⟨rfl, HU.out, hfw.out⟩
    · rw [hlk] at hl
      have HNO := Lib.hid hlk
      clear hlk
      go_enter Try.func16, Try.ntmps16
      go_wp2_with (fail)
      rw [← hXX, ← hw1]
      clear hXX hw1
      refine HC.out.mono ?_
      rintro e w2 ⟨rfl, rfl⟩
      clear HC
      go_wp2
      refine wp_phS (fun _ => False) [([0, 1, 2, 3, 4, 5, 6, 7, 8], 9), ([10, 11, 12, 13], 14)] (by kernel_rfl) (by kernel_rfl) ?_
      simp only [wpPh, pick, List.map_cons, List.map_nil, List.getD_cons_zero, List.getD_cons_succ]
      have nS : ∀ b : Nat, ¬ (fun _ : Nat => False) b := fun _ h => h
      repeat (any_goals (first | go_big_quiet_step (fail) | quiet_step (fail)))
      refine wpQuiet_nil ?_
      refine effStep_plain rfl fun K hK => ?_
      obtain ⟨wd, hwd⟩ : ∃ z, z = w2.drew := ⟨_, rfl⟩
      have hsd : Same w2 wd := by rw [hwd]; exact (Frm.refl _ _).drew
      rw [← hwd]
      clear hwd
      refine Own.mapLook (.tmp 23) (.tmp 24) 64 rfl Try.underlying64 Try.underlying34 (Try.zeroValue34 _) rfl (hm.out.frm hsd id) ⟨v, nlo, nhi⟩ HN.out rfl ?_
      rw [hl.out]
      refine hK _ _ (Lat.mk_ hsd) ?_
      clear hK K
      repeat (any_goals (first | go_big_quiet_step (fail) | quiet_step (fail)))
      refine wpQuiet_nil ?_
      have ct := (hsd.cell (p := ⟨U.T, 0, none⟩) lt id).trans ct
      have cs := (hsd.cell (p := ⟨U.sb, v, none⟩) ls id).trans cs
      have cX0 := (hsd.cell (p := ⟨X, 0, none⟩) lX id).trans cX0
      have cX1 := (hsd.cell (p := ⟨X, 1, none⟩) lX id).trans cX1
      have cX2 := (hsd.cell (p := ⟨X, 2, none⟩) lX id).trans cX2
      have lt := Nat.lt_of_lt_of_le lt hsd.size
      have ls := Nat.lt_of_lt_of_le ls hsd.size
      have lX := Nat.lt_of_lt_of_le lX hsd.size
      have HSD := Lib.hid hsd
      clear hsd
      go_wp2
      refine wp_phS (fun _ => False) [([0, 1, 2, 3, 4, 5, 6, 7, 8], 9)] (by kernel_rfl) (by kernel_rfl) ?_
      simp only [wpPh, pick, List.map_cons, List.map_nil, List.getD_cons_zero, List.getD_cons_succ]
      repeat (any_goals (first | go_big_quiet_step (fail) | quiet_step (fail)))
      refine wpQuiet_nil ?_
      obtain ⟨we, hwe⟩ : ∃ z, z = wd.drew := ⟨_, rfl⟩
      have hse : Same wd we := by rw [hwe]; exact (Frm.refl _ _).drew
      rw [← hwe]
      clear hwe
      refine wpList_plain rfl fun K hK => ?_
      refine Own.nmDel (.tmp 37) (.tmp 38) 64 rfl Try.underlying64 rfl ((hm.out.frm HSD.out id).frm hse id) ⟨v, nlo, nhi⟩ HN.out rfl (by rw [hky.out]; exact mem_keys.2 ⟨r0, look_mem HNO.out⟩) ?_
      intro w3 hnm hf
      refine hK _ _ ?_
      have HF := Lib.hid (HFIN.out v w3 hvv rfl hnm (((Frm.refl _ w2).trans (HSD.out.trans hse (fun _ _ h => h)) (fun _ _ h => h.elim)).trans hf (fun _ _ h => h)))
      clear hK K hnm hf
      go_wp2
      go_ret
      exact ⟨rfl, HF.out.1, HF.out.2⟩
  · have hE : vErr vars nv = 2 := if_neg hv
    rw [hE] at HC
    unfold remE remL
    rw [if_neg hv, if_neg hv]
    have hfw := Lib.hid ((Frm.refl (UB U vars) w).trans HS1.out (fun _ _ h => h.elim))
    clear hE hv
    go_enter Try.func16, Try.ntmps16
    go_wp2_with (fail)
    rw [← hXX, ← hw1]
    clear hXX hw1
    refine HC.out.mono ?_
    rintro e w2 ⟨rfl, rfl⟩
    clear HC
    go_wp2
    go_ret
    exact ⟨rfl, H1.out, hfw.out⟩
end Go.Proofs.Ytkelbbalffijbaa


/- The unique table: New; a nil one. -/
namespace Go.Proofs.Ytkelbbalffijbaa
open Go.RowKit Go.Tk Go.Maps

set_option maxRecDepth 100000 in
theorem uqnew_bad (vars : Int) (h : ¬ (1 ≤ vars ∧ vars ≤ 64)) (w : World) : Calls Try.prog 9 #[.int .i64 vars] w fun e w' => e = .returned (.tuple #[.pointer none, .int .i64 1]) ∧ w' = w := by
  rcases Int.lt_or_le vars 1 with h1 | h1
  · clear h
    go_enter Try.func9, Try.ntmps9
    go_wp2
    go_ret2
    exact ⟨rfl, rfl⟩
  · have h3 : ¬ vars < 1 := by omega
    have h2 : 64 < vars := by omega
    clear h
    go_enter Try.func9, Try.ntmps9
    go_wp2
    go_ret2
    exact ⟨rfl, rfl⟩
theorem info_nmap : (Try.prog.info? 64).map (fun i => (i.zero, i.size, i.bytes)) = some (some (.map none), 1, 8) := by kernel_rfl
/-- a table under way: the maps below k are made -/
structure UTp (w0 w : World) (U : UTab) (n k : Nat) : Prop where
  same : Same w0 w
  t : Blk w U.T 63 #[.slice (some ⟨U.sb, 0, none⟩) n n]
  s : ∃ cs, Blk w U.sb 64 cs ∧ cs.size = n ∧ ∀ v, v < k → cs[v]? = some (.map (some (U.mb v)))
  m : ∀ v, v < k → NM 34 .u32 w (U.mb v) []
  inj : ∀ u v, u < k → v < k → U.mb u = U.mb v → u = v
  fT : w0.heap.size ≤ U.T
  fs : w0.heap.size ≤ U.sb
  fm : ∀ v, v < k → w0.heap.size ≤ U.mb v ∧ U.T < U.mb v ∧ U.sb < U.mb v
theorem utp_step {w w1 : World} {T sb n k : Nat} {mb : Nat → Nat} (h : UTp w w1 ⟨T, sb, mb⟩ n k) (hk : k < n) : UTp w ((w1.setCell ⟨sb, k, none⟩ (.map (some w1.heap.size))).alloc (.map #[] 0)) ⟨T, sb, fun v => if v = k then w1.heap.size else mb v⟩ n (k + 1) := by
  obtain ⟨cs, hB, hcs, hck⟩ := h.s
  have hTl : T < w1.heap.size := h.t.lt
  have hSl : sb < w1.heap.size := hB.lt
  have hne : sb ≠ T := fun e => by
    have h1 := h.t
    simp only at h1 hB
    rw [← e] at h1
    have := (hB.inj h1).1
    revert this
    decide
  have hf : Frm (fun x => x = sb) w1 ((w1.setCell ⟨sb, k, none⟩ (.map (some w1.heap.size))).alloc (.map #[] 0)) := ((Frm.refl (fun x => x = sb) w1).set k _ rfl).alloc _
  refine ⟨h.same.trans hf (fun i hi (e : i = sb) => by have := h.fs; simp only at this; omega), h.t.frm hf (fun e => hne e.symm), ⟨_, (hB.set k (.map (some w1.heap.size))).alloc _, by simp [hcs], fun v hv => ?_⟩, fun v hv => ?_, fun u v hu hv e => ?_, h.fT, h.fs, fun v hv => ?_⟩
  · by_cases e : v = k
    · subst e; simp [hcs, hk]
    · rw [Array.getElem?_setIfInBounds_ne (fun e2 => e e2.symm)]
      simp only [if_neg e]
      exact hck v (by omega)
  · by_cases e : v = k
    · simp only [if_pos e]
      have := NM.made 34 .u32 (w1.setCell ⟨sb, k, none⟩ (.map (some w1.heap.size)))
      rwa [size_setCell] at this
    · simp only [if_neg e]
      refine (h.m v (by omega)).frm hf (fun e2 => ?_)
      have := (h.fm v (by omega)).2.2
      simp only at this e2
      omega
  · have lv := fun x (hx : x < k) => (h.m x hx).lt
    simp only at e lv
    by_cases e1 : u = k <;> by_cases e2 : v = k
    · rw [e1, e2]
    · rw [if_pos e1, if_neg e2] at e; have := lv v (by omega); omega
    · rw [if_neg e1, if_pos e2] at e; have := lv u (by omega); omega
    · rw [if_neg e1, if_neg e2] at e; exact h.inj u v (by omega) (by omega) e
  · by_cases e : v = k
    · simp only [if_pos e]
      exact ⟨h.same.size, hTl, hSl⟩
    · simp only [if_neg e]
      exact h.fm v (by omega)
set_option maxRecDepth 100000 in
set_option maxHeartbeats 4000000 in
theorem uqnew_any (n : Nat) (h1 : 1 ≤ n) (h2 : n ≤ 64) (w : World) :
    Calls Try.prog 9 #[.int .i64 n] w fun e w' => ∃ U, e = .returned (.tuple #[.pointer (some ⟨U.T, 0, none⟩), .int .i64 0]) ∧ Same w w' ∧ UT w' U n [] ∧ w.heap.size ≤ U.T ∧ w.heap.size ≤ U.sb ∧ ∀ v, v < n → w.heap.size ≤ U.mb v := by
  have h3 : ¬ (n : Int) < 1 := by omega
  have h4 : ¬ (64 : Int) < n := by omega
  have hmk := fun w => run_make_n (P := Try.prog) Try.underlying61 info_nmap .i64 .i64 n (by omega) (by omega) w
  have hmm := @run_makeMap Try.prog
  go_enter Try.func9, Try.ntmps9
  go_upto_region 4 with fail
  refine wp_world fun w1 hw1 => ?_
  have hs1 : Same w w1 := by rw [hw1]; exact ((Frm.refl _ _).alloc _).alloc _
  have hT : Blk w1 (w.heap.size + 1) 63 #[.slice (some ⟨w.heap.size, 0, none⟩) n n] := by
    rw [hw1]
    have := Blk.new (w.alloc (.cells (madeCells #[.map none] n) 64)) 63 #[.slice (some ⟨w.heap.size, 0, none⟩) n n]
    rwa [World.size_alloc] at this
  have hS : Blk w1 w.heap.size 64 (madeCells #[.map none] n) := by rw [hw1]; exact (Blk.new _ _ _).alloc _
  have hsz : (madeCells #[.map none] n).size = n := by simp [madeCells]
  have h0 := Lib.hid (show UTp w w1 ⟨w.heap.size + 1, w.heap.size, fun _ => 0⟩ n 0 from ⟨hs1, hT, ⟨_, hS, hsz, fun v hv => absurd hv (Nat.not_lt_zero v)⟩, fun v hv => absurd hv (Nat.not_lt_zero v), fun u v hu => absurd hu (Nat.not_lt_zero u), Nat.le_succ _, Nat.le_refl _, fun v hv => absurd hv (Nat.not_lt_zero v)⟩)
  clear hs1 hT hS hsz hw1 hmk
  obtain ⟨T, hT⟩ : ∃ T, T = w.heap.size + 1 := ⟨_, rfl⟩
  obtain ⟨sb, hsb⟩ : ∃ T, T = w.heap.size := ⟨_, rfl⟩
  rw [← hT, ← hsb] at h0 ⊢
  clear hT hsb
  go_wp2
  go_loopw [17] (fun i wr => ∃ (k : Nat) (mb : Nat → Nat), i = .int .i64 k ∧ k ≤ n ∧ UTp w wr ⟨T, sb, mb⟩ n k) (fun i _ => n - (intOf i).toNat)
  case atStart => exact ⟨0, _, rfl, Nat.zero_le _, h0.out⟩
  case round =>
    clear h0
    obtain ⟨k, mb, rfl, hk, hp⟩ := hrel
    by_cases hlt : k < n
    · have hk0 : (0 : Int) ≤ k := by omega
      have hk1 : (k : Int) < n := by omega
      have HP := Lib.hid hp
      have cT : wr.cell? ⟨T, 0, none⟩ = some (.slice (some ⟨sb, 0, none⟩) n n) := hp.t.cell 0
      have lT : T < wr.heap.size := hp.t.lt
      obtain ⟨cs, hB, hcs, hck⟩ := hp.s
      simp only at hB
      have lS : sb < wr.heap.size := hB.lt
      have fS : wr.frozen? ⟨sb, k, none⟩ = false := hB.free k
      obtain ⟨u, hu⟩ : ∃ u, cs[k]? = some u := ⟨_, Array.getElem?_eq_getElem (by rw [hcs]; exact hlt)⟩
      have cS : wr.cell? ⟨sb, k, none⟩ = some u := (hB.cell k).trans hu
      have HB := Lib.hid hB
      have HC := Lib.hid hck
      have HCS := Lib.hid hcs
      clear hB hcs hck hu hp
      go_wp2
      go_roundw
      case rel => exact ⟨k + 1, _, by go_num, hlt, utp_step HP.out hlt⟩
      case measure => simp [intOf] <;> omega
    · obtain rfl : k = n := by omega
      obtain ⟨cs, hB, hcs, hck⟩ := hp.s
      have hU : UT wr ⟨T, sb, mb⟩ k [] := ⟨⟨h1, h2⟩, hp.t, fun v hv => (hB.cell v).trans (hck v hv), hB.lt, fun v hv => hp.m v hv, hp.inj, fun v hv => ⟨Nat.ne_of_gt (hp.fm v hv).2.1, Nat.ne_of_gt (hp.fm v hv).2.2⟩, by simp, List.nodup_nil⟩
      have HU := Lib.hid hU
      have HP := Lib.hid hp
      clear hU hp hB hcs hck
      go_wp2
      go_ret2
      exact ⟨⟨T, sb, mb⟩, rfl, HP.out.same, HU.out, HP.out.fT, HP.out.fs, fun v hv => (HP.out.fm v hv).1⟩
end Go.Proofs.Ytkelbbalffijbaa


/- slices.Sort at u32, laid at this seat. -/
namespace Go.Proofs.Ytkelbbalffijbaa
open Go.RowKit Go.Sort Go.Shelf
def Try.usort_ren : Go.Shelf.Ren := ⟨fun | 5 => 29 | 8 => 33 | 7 => 32 | 19 => 43 | 20 => 44 | 10 => 34 | 11 => 35 | 12 => 36 | 13 => 37 | 14 => 38 | 15 => 39 | 16 => 40 | 17 => 41 | 18 => 42 | 30 => 45 | 31 => 46 | 32 => 47 | 33 => 48 | 34 => 49 | 35 => 50 | 40 => 51 | n => n, fun | 23 => 47 | 25 => 34 | 3 => 3 | 32 => 82 | 22 => 47 | 0 => 0 | 44 => 33 | 46 => 94 | 4 => 4 | 36 => 85 | 35 => 84 | 41 => 90 | 5 => 5 | 9 => 9 | 53 => 95 | 57 => 99 | 63 => 101 | 64 => 102 | n => n, fun | n => n⟩
theorem Try.usort : Go.Proofs.Ytkelbbalffijbaa.SlW32.n5 Try.prog Try.usort_ren := {
  mixed := by kernel_rfl
  f5 := ⟨Try.f29.name, by decide, Try.func29.trans (congrArg some (by kernel_rfl))⟩
  f7 := ⟨Try.f32.name, by decide, Try.func32.trans (congrArg some (by kernel_rfl))⟩
  f8 := Try.func33.trans (congrArg some (by kernel_rfl))
  f10 := ⟨Try.f34.name, by decide, Try.func34.trans (congrArg some (by kernel_rfl))⟩
  f11 := ⟨Try.f35.name, by decide, Try.func35.trans (congrArg some (by kernel_rfl))⟩
  f12 := ⟨Try.f36.name, by decide, Try.func36.trans (congrArg some (by kernel_rfl))⟩
  f13 := ⟨Try.f37.name, by decide, Try.func37.trans (congrArg some (by kernel_rfl))⟩
  f14 := ⟨Try.f38.name, by decide, Try.func38.trans (congrArg some (by kernel_rfl))⟩
  f15 := ⟨Try.f39.name, by decide, Try.func39.trans (congrArg some (by kernel_rfl))⟩
  f16 := ⟨Try.f40.name, by decide, Try.func40.trans (congrArg some (by kernel_rfl))⟩
  f17 := ⟨Try.f41.name, by decide, Try.func41.trans (congrArg some (by kernel_rfl))⟩
  f18 := ⟨Try.f42.name, by decide, Try.func42.trans (congrArg some (by kernel_rfl))⟩
  f19 := Try.func43.trans (congrArg some (by kernel_rfl))
  f20 := Try.func44.trans (congrArg some (by kernel_rfl))
  f30 := ⟨Try.f45.name, by decide, Try.func45.trans (congrArg some (by kernel_rfl))⟩
  f31 := Try.func46.trans (congrArg some (by kernel_rfl))
  f32 := Try.func47.trans (congrArg some (by kernel_rfl))
  f33 := ⟨Try.f48.name, by decide, Try.func48.trans (congrArg some (by kernel_rfl))⟩
  f34 := ⟨Try.f49.name, by decide, Try.func49.trans (congrArg some (by kernel_rfl))⟩
  f35 := ⟨Try.f50.name, by decide, Try.func50.trans (congrArg some (by kernel_rfl))⟩
  f40 := ⟨Try.f51.name, by decide, Try.func51.trans (congrArg some (by kernel_rfl))⟩
  t0 := Try.underlying0
  a0 := Try.isAgg0
  z0 := Try.sizeOf0
  v0 := Try.zeroValue0
  t3 := Try.underlying3
  a3 := Try.isAgg3
  z3 := Try.sizeOf3
  v3 := Try.zeroValue3
  t4 := Try.underlying4
  a4 := Try.isAgg4
  z4 := Try.sizeOf4
  v4 := Try.zeroValue4
  t5 := Try.underlying5
  a5 := Try.isAgg5
  z5 := Try.sizeOf5
  v5 := Try.zeroValue5
  t9 := Try.underlying9
  a9 := Try.isAgg9
  z9 := Try.sizeOf9
  v9 := Try.zeroValue9
  t22 := Try.underlying47
  a22 := Try.isAgg47
  z22 := Try.sizeOf47
  v22 := Try.zeroValue47
  t23 := Try.underlying47
  a23 := Try.isAgg47
  z23 := Try.sizeOf47
  v23 := Try.zeroValue47
  t25 := Try.underlying34
  a25 := Try.isAgg34
  z25 := Try.sizeOf34
  v25 := Try.zeroValue34
  t32 := Try.underlying82
  a32 := Try.isAgg82
  z32 := Try.sizeOf82
  v32 := Try.zeroValue82
  t35 := Try.underlying84
  a35 := Try.isAgg84
  z35 := Try.sizeOf84
  v35 := Try.zeroValue84
  t36 := Try.underlying85
  a36 := Try.isAgg85
  z36 := Try.sizeOf85
  v36 := Try.zeroValue85
  t41 := Try.underlying90
  a41 := Try.isAgg90
  z41 := Try.sizeOf90
  v41 := Try.zeroValue90
  t44 := Try.underlying33
  a44 := Try.isAgg33
  z44 := Try.sizeOf33
  v44 := Try.zeroValue33
  t46 := Try.underlying94
  a46 := Try.isAgg94
  z46 := Try.sizeOf94
  v46 := Try.zeroValue94
  t53 := Try.underlying95
  a53 := Try.isAgg95
  z53 := Try.sizeOf95
  v53 := Try.zeroValue95
  t57 := Try.underlying99
  a57 := Try.isAgg99
  z57 := Try.sizeOf99
  v57 := Try.zeroValue99
  t63 := Try.underlying101
  a63 := Try.isAgg101
  z63 := Try.sizeOf101
  v63 := Try.zeroValue101
  t64 := Try.underlying102
  a64 := Try.isAgg102
  z64 := Try.sizeOf102
  v64 := Try.zeroValue102 }
end Go.Proofs.Ytkelbbalffijbaa


/- maps.Values over a map of nodes; slices.Sorted of it. -/
namespace Go.Proofs.Ytkelbbalffijbaa
open Go.RowKit Go.Tk Go.Maps Go.Sort Go.Shelf

structure CollN (D : DataW Unit) (left : Lit → Bool) (ps : List Ent) : Prop where
  nd : (keys ps).Nodup
  mem : ∀ n : Nd, n.ok → (n ∈ keys ps ↔ Maps.has D n.key = true ∧ left n.key = false)
  val : ∀ p ∈ ps, p.1.ok ∧ ∀ zd, D.atKey p.1.key zd = .lit (.int .u32 p.2)
theorem CollN.start (D : DataW Unit) : CollN D (Maps.has D) [] := ⟨List.nodup_nil, fun n _ => by cases Maps.has D n.key <;> simp [keys], by simp⟩
theorem CollN.step {D : DataW Unit} {left : Lit → Bool} {ps : List Ent} (h : CollN D left ps) {n : Nd} {c : Int} (hn : n.ok) (hlk : left n.key = true) (hat : ∀ zd, D.atKey n.key zd = .lit (.int .u32 c)) : CollN D (fun z => left z && !z.sameKey n.key) (ps ++ [(n, c)]) := by
  have hhas : Maps.has D n.key = true := has_true_of_atKey hat
  have hnew : n ∉ keys ps := fun hx => by have := ((h.mem n hn).1 hx).2; rw [hlk] at this; cases this
  have hk : keys (ps ++ [(n, c)]) = keys ps ++ [n] := by simp [keys]
  refine ⟨?_, fun m hm => ?_, fun p hp => ?_⟩
  · rw [hk, List.nodup_append]
    exact ⟨h.nd, by simp, fun a ha b hb e => hnew (by simp at hb; rw [← hb, ← e]; exact ha)⟩
  · rw [hk, List.mem_append, List.mem_singleton]
    by_cases e : m = n
    · subst e
      have hsk : m.key.sameKey m.key = true := by simp [Nd.key, Lit.sameKey]
      rw [hsk, hhas]; simp
    · rw [sameKey_ne (fun e2 => e (nd_key_inj hm hn e2)), h.mem m hm]
      simp [e]
  · rcases List.mem_append.1 hp with hp | hp
    · exact h.val p hp
    · obtain rfl := List.mem_singleton.1 hp
      exact ⟨hn, hat⟩
theorem nodup_of_keys {L : List Ent} (h : (keys L).Nodup) : L.Nodup := by
  induction L with
  | nil => exact List.nodup_nil
  | cons a L ih =>
    obtain ⟨h1, h2⟩ := List.nodup_cons.1 (show (a.1 :: keys L).Nodup from h)
    exact List.nodup_cons.2 ⟨fun hm => h1 (List.mem_map_of_mem hm), ih h2⟩
theorem CollN.perm {D : DataW Unit} {left : Lit → Bool} {ps L : List Ent} (h : CollN D left ps) (hr : NRel .u32 D L) (hl : ∀ kl, left kl = false) : ps.Perm L := by
  refine (List.perm_ext_iff_of_nodup (nodup_of_keys h.nd) (nodup_of_keys hr.nd)).2 fun p => ⟨fun hp => ?_, fun hp => ?_⟩
  · obtain ⟨h1, h2⟩ := h.val p hp
    have hk := ((h.mem p.1 h1).1 (List.mem_map_of_mem hp)).1
    obtain ⟨r, hm⟩ := mem_keys.1 ((hr.dom p.1 h1).1 hk)
    have h3 := hr.val _ hm (.lit (.int .u32 0))
    rw [h2] at h3
    have := dlit_inj h3
    rw [show p = (p.1, p.2) from rfl, this]
    exact hm
  · obtain ⟨h1, h2⟩ := hr.ok p hp
    have hk := (hr.dom p.1 h1).2 (List.mem_map_of_mem hp)
    obtain ⟨r, hm⟩ := mem_keys.1 ((h.mem p.1 h1).2 ⟨hk, hl _⟩)
    have h3 := (h.val _ hm).2 (.lit (.int .u32 0))
    rw [hr.val p hp] at h3
    have := dlit_inj h3
    rw [show p = (p.1, p.2) from rfl, this]
    exact hm
set_option maxRecDepth 100000 in
set_option maxHeartbeats 1000000 in
theorem vals1_in (F : Fence) (n : Nat) (h8 : F.fn 30) (hro : F.round = none) (hn : 1 ≤ n) (l Bm b : Nat) (L : List Ent) (J : List Int → World → Prop)
    (hY : ∀ pre x W, J pre W → pre.length < L.length → YieldAt F (n - 1) Try.prog l #[.int .u32 x] W fun e W' => e = .returned (.bool true) ∧ J (pre ++ [x]) W' ∧ KeepsWalks W W')
    (W : World) (hJ : AbidesFrom W.heap.size J) (hm : W.cell? ⟨Bm, 0, none⟩ = some (.map (some b))) (hown : NM 34 .u32 W b L) (h0 : J [] W) :
    CallsIn F n Try.prog 30 #[.func (.yield l) #[] #[], .pointer (some ⟨Bm, 0, none⟩)] W fun e W' => (∃ v, e = .returned v) ∧ ∃ ps : List Ent, ps.Perm L ∧ J (ps.map (·.2)) W' := by
  obtain ⟨D0, hown, hrel0⟩ := hown
  have hsz : Maps.size D0 = L.length := hrel0.size
  rw [← hsz] at hY
  clear hsz
  refine callsIn_of_wp Try.func30 rfl h8 ?_ hro
  simp only [Try.ntmps30, List.size_toArray, List.length_cons, List.length_nil, Nat.reduceAdd, Nat.reduceSub, Array.replicate_succ, Array.replicate_zero, List.push_toArray, List.append_toArray, List.nil_append, List.cons_append]
  gi_wp2_with (first
    | (gi_at_range; refine wpListIn_range_own _ rfl _ 64 rfl 36 34 KN Try.underlying64 _ b _ _ rfl hown ?_; intro w0 hrg0 hg0 hs0)
    | gi_in)
  go_frame
  gi_loopw [4] (fun _ wr => ∃ (left : Lit → Bool) (cnt : Nat) (ps : List Ent), wr.ranges Try.prog 36 (refR 34) b W.heap.size L.length D0 left cnt ∧ ps.length + cnt ≤ Maps.size D0 ∧ CollN D0 left ps ∧ J (ps.map (·.2)) wr)
    (fun _ wr => wr.rangeLeft b W.heap.size)
  case atStart =>
    exact ⟨_, _, [], hrg0, by simp, CollN.start D0, hJ [] W w0 none h0 hg0 (fun r e => by cases e)⟩
  case round =>
    obtain ⟨left, cnt, ps, hrg, hcs, hC, hJs⟩ := hrel
    gi_wp2_with (first
      | (gi_at_next; refine wpListIn_next_ranges _ rfl _ rfl 36 KN (refR 34) Nd.val (Value.int .u32) (fun key kl hk => by obtain ⟨x, _, hx, _⟩ := nd_key_inv hk; exact ⟨x, hx⟩) (fun v y hv => by obtain ⟨c, rfl, _⟩ := plainElem_int_inv Try.underlying34 hv; exact ⟨c, rfl⟩) b W.heap.size L.length _ _ _ rfl hrg ?_ ?_)
      | gi_in)
    · intro hc0 hl0
      gi_wp2
      go_end0
      exact ⟨⟨_, rfl⟩, ps, hC.perm hrel0 hl0, hJs⟩
    · intro x c kl yd yp w2 cnt2 hkey hlk hv hat hrg2 hlt hg2 hs2 hen
      obtain ⟨x', hxo, ex, rfl⟩ := nd_key_inv hkey
      obtain rfl : x = x' := by cases x; cases x'; simpa [Nd.val] using ex
      obtain ⟨c', ec, ez, _⟩ := plainElem_int_inv Try.underlying34 hv
      obtain rfl : c = c' := by simpa using ec
      obtain rfl : yd = .lit (.int .u32 c) := (Prod.mk.inj ez).1
      have hJ2 : J (ps.map (·.2)) w2 := hJ _ wr w2 (some W.heap.size) hJs hg2 (fun r e => by cases e; exact ⟨Nat.le_refl _, hrg.iter_walk⟩)
      obtain ⟨fn, tmps, assign, body, hy, hR⟩ := hY (ps.map (·.2)) c w2 hJ2 (by simp <;> omega)
      clear hs2
      gi_wp2
      refine hR.mono ?_
      have hC2 := hC.step hxo hlk hat
      rintro e W3 ⟨rfl, hJ3, hk3⟩
      gi_wp2
      have hrg3 := hrg2.of_walks hk3
      go_roundw
      case rel => exact ⟨_, cnt2, ps ++ [(x, c)], hrg3, by simp <;> omega, hC2, by simpa using hJ3⟩
      case measure => rw [hrg3.left_eq, hrg.left_eq]; exact hlt
end Go.Proofs.Ytkelbbalffijbaa


/- slices.Sorted at u32, laid at this seat. -/
namespace Go.Proofs.Ytkelbbalffijbaa
open Go.RowKit Go.Sort Go.Shelf
def Try.usorted_ren : Go.Shelf.Ren := ⟨fun | 6 => 24 | 8 => 28 | 9 => 29 | 11 => 31 | 13 => 33 | 12 => 32 | 23 => 43 | 24 => 44 | 14 => 34 | 15 => 35 | 16 => 36 | 17 => 37 | 18 => 38 | 19 => 39 | 20 => 40 | 21 => 41 | 22 => 42 | 25 => 45 | 26 => 46 | 27 => 47 | 28 => 48 | 29 => 49 | 30 => 50 | 31 => 51 | n => n, fun | 26 => 34 | 28 => 71 | 24 => 47 | 0 => 0 | 3 => 3 | 37 => 82 | 48 => 33 | 50 => 94 | 4 => 4 | 40 => 85 | 39 => 84 | 45 => 90 | 5 => 5 | 9 => 9 | 51 => 95 | 55 => 99 | 57 => 101 | 58 => 102 | 33 => 78 | n => n, fun | n => n⟩
theorem Try.usorted : Go.Proofs.Ytkelbbalffijbaa.SlZ32.n6 Try.prog Try.usorted_ren := {
  mixed := by kernel_rfl
  f6 := ⟨Try.f24.name, by decide, Try.func24.trans (congrArg some (by kernel_rfl))⟩
  f8 := ⟨Try.f28.name, by decide, Try.func28.trans (congrArg some (by kernel_rfl))⟩
  f11 := ⟨Try.f31.name, by decide, Try.func31.trans (congrArg some (by kernel_rfl))⟩
  t0 := Try.underlying0
  a0 := Try.isAgg0
  z0 := Try.sizeOf0
  v0 := Try.zeroValue0
  t24 := Try.underlying47
  a24 := Try.isAgg47
  z24 := Try.sizeOf47
  v24 := Try.zeroValue47
  t26 := Try.underlying34
  a26 := Try.isAgg34
  z26 := Try.sizeOf34
  v26 := Try.zeroValue34
  t28 := Try.underlying71
  a28 := Try.isAgg71
  z28 := Try.sizeOf71
  v28 := Try.zeroValue71
  i26 := by kernel_rfl }
end Go.Proofs.Ytkelbbalffijbaa


/- The unique table: Refs. -/
namespace Go.Proofs.Ytkelbbalffijbaa
open Go.RowKit Go.Tk Go.Maps Go.Sort Go.Shelf

theorem vals_gives (F : Fence) (n : Nat) (h8 : F.fn 30) (hro : F.round = none) (hn : 1 ≤ n) (Bm b : Nat) (L : List Ent) (w : World) (hBm : Bm < w.heap.size) (hm : w.cell? ⟨Bm, 0, none⟩ = some (.map (some b))) (hown : NM 34 .u32 w b L) :
    SeqGives F n Try.prog 30 #[.pointer (some ⟨Bm, 0, none⟩)] encU (fun ss => ∃ ps : List Ent, ps.Perm L ∧ ss = ps.map (·.2)) L.length w := fun l J W hW hJ hY h0 => by
  have hown' : NM 34 .u32 W b L := by
    have hbl := hown.lt
    obtain ⟨D, h1, h2⟩ := hown
    obtain ⟨es, clock, hb, Ft, hs, hD⟩ := h1
    exact ⟨D, ⟨es, clock, (hW.block b hbl).trans hb, Ft, hs, hD⟩, h2⟩
  refine (vals1_in F n h8 hro hn l Bm b L J hY W hJ ((hW.cell (p := ⟨Bm, 0, none⟩) hBm).trans hm) hown' h0).mono ?_
  rintro e W' ⟨hv, ps, hp, hJ'⟩
  exact ⟨hv, _, ⟨ps, hp, rfl⟩, hJ'⟩
set_option maxHeartbeats 1000000 in
theorem vals_in (F : Fence) (n : Nat) (hf : F.fn 25) (hro : F.round = none) (mb : Option Nat) (w : World) :
    CallsIn F n Try.prog 25 #[.map mb] w fun e w' => e = .returned (.func (.func 30) #[] #[.pointer (some ⟨w.heap.size, 0, none⟩)]) ∧ w' = w.alloc (.cells #[.map mb] 64) := by
  refine callsIn_of_wp Try.func25 rfl hf ?_ hro
  simp only [Try.ntmps25, List.size_toArray, List.length_cons, List.length_nil, Nat.reduceAdd, Nat.reduceSub, Array.replicate_succ, Array.replicate_zero, List.push_toArray, List.append_toArray, List.nil_append, List.cons_append]
  gi_wp2
  go_ret
  exact ⟨rfl, rfl⟩
theorem usorts (m : Nat) : AnyZU.SortsIn Try.prog Try.usorted_ren Fence.wide m :=
  ⟨fun blk off cap ss W hH hblk hsz => callsIn_wide.2 (AnyU.slices_Sort_int Try.usort blk off cap ss W hH hblk hsz),
   fun p cap W => callsIn_wide.2 (AnyU.slices_Sort_int_none Try.usort p cap W)⟩
/-- the numbers of a list of entries, rising -/
def rising (L : List Ent) : List Int := (L.map (·.2)).mergeSort fun x y => decide (x ≤ y)
theorem rising_perm {L L' : List Ent} (h : L.Perm L') : rising L = rising L' := by
  unfold rising
  have tr : ∀ a b c : Int, decide (a ≤ b) = true → decide (b ≤ c) = true → decide (a ≤ c) = true := by
    intro a b c h1 h2; simp at h1 h2 ⊢; omega
  have tot : ∀ a b : Int, (decide (a ≤ b) || decide (b ≤ a)) = true := by
    intro a b; simp <;> omega
  refine List.Perm.eq_of_pairwise (le := fun a b => decide (a ≤ b) = true) ?_ (List.pairwise_mergeSort tr tot _) (List.pairwise_mergeSort tr tot _) ?_
  · intro a b _ _ h1 h2; simp at h1 h2; omega
  · exact ((List.mergeSort_perm _ _).trans (h.map _)).trans (List.mergeSort_perm _ _).symm
theorem rising_len (L : List Ent) : (rising L).length = L.length := by unfold rising; rw [List.length_mergeSort, List.length_map]
/-- a new slice of Refs that holds the list -/
def NewU (lo : Nat) (w' : World) (v : Value) (xs : List Int) : Prop := ∃ A C, v = .slice A xs.length C ∧ Row1 w' 34 (Value.int .u32) A xs.length C xs ∧ Fresh lo A ∧ (xs = [] ↔ A = none)
theorem newU_of {lo : Nat} {w' : World} {v : Value} {xs : List Int} (h : w'.ownsRow lo 34 1 v xs.length (xs.map encU)) (hn : v = .slice none 0 0 ↔ xs = []) : NewU lo w' v xs := by
  have h0 := ownsRow_base_a h (Nat.zero_le lo)
  rcases h.2 with ⟨rfl, hz⟩ | ⟨g, cap, cur, rfl, hb, hg, _⟩
  · obtain rfl := List.eq_nil_of_length_eq_zero hz
    exact ⟨none, 0, rfl, Own.nil _ _ _ _, fresh_none _, by simp⟩
  · refine ⟨some ⟨g, 0, none⟩, cap, rfl, ⟨rfl, ?_⟩, fresh_some hb, ?_⟩
    · rw [flat1]; exact h0
    · simp at hn ⊢; exact fun h => hn h
set_option maxRecDepth 100000 in
set_option maxHeartbeats 1000000 in
/-- slices.Sorted(maps.Values(m)) -/
theorem sortedvals_any (b : Nat) (L : List Ent) (w : World) (hm : NM 34 .u32 w b L) (hmax : L.length * 4 ≤ 140737488355328) :
    ∃ w1, w1 = w.alloc (.cells #[.map (some b)] 64) ∧ Calls Try.prog 24 #[.func (.func 30) #[] #[.pointer (some ⟨w.heap.size, 0, none⟩)]] w1 fun e w' => ∃ v, e = .returned v ∧ NewU w.heap.size w' v (rising L) ∧ Same w w' := by
  obtain ⟨w1, hw1⟩ : ∃ z, z = w.alloc (.cells #[.map (some b)] 64) := ⟨_, rfl⟩
  have hs1 : Same w w1 := by rw [hw1]; exact (Frm.refl _ _).alloc _
  have hX : Blk w1 w.heap.size 64 #[.map (some b)] := by rw [hw1]; exact Blk.new _ _ _
  have hseq := vals_gives Fence.wide (5 - 1 - 1 - 1) trivial rfl (by omega) w.heap.size b L w1 hX.lt (hX.cell 0) (hm.frm hs1 id)
  have cS := AnyZU.sorted_in Try.usorted Fence.wide 5 trivial trivial trivial trivial rfl (by omega) (usorts _) (enters_of Try.func29 (by kernel_rfl) rfl) 30 #[.pointer (some ⟨w.heap.size, 0, none⟩)] trivial (enters_of Try.func30 (by kernel_rfl) rfl) _ _ (by show L.length ≤ 9223372036854775807; omega) hmax w1 hseq
  refine ⟨w1, hw1, (callsIn_wide.1 cS).mono ?_⟩
  rintro e w' ⟨v, ss, rfl, ⟨ps, hp, rfl⟩, hrow, hnil, hb⟩
  have hsz : w.heap.size ≤ w1.heap.size := hs1.size
  have hlen : (rising ps).length = (ps.map (·.2)).length := by rw [rising_len, List.length_map]
  refine ⟨v, rfl, ?_, hs1.trans (Frm.of_below hb _) (fun _ _ h => h)⟩
  rw [← rising_perm hp]
  have hrow' : w'.ownsRow w.heap.size 34 1 v (rising ps).length ((rising ps).map encU) := by
    rw [hlen]; exact ownsRow_base_a hrow hsz
  refine newU_of hrow' ?_
  rw [hnil]
  constructor
  · intro h; rw [List.map_eq_nil_iff] at h; subst h; simp [rising]
  · intro h; rw [List.map_eq_nil_iff]; exact List.eq_nil_of_length_eq_zero (by rw [← rising_len, h]; rfl)
set_option maxRecDepth 100000 in
set_option maxHeartbeats 1000000 in
theorem uqrefs_any (U : UTab) (vars : Nat) (L : List Ent) (v : Nat) (hv : v < vars) (w : World) (h : UT w U vars L) (hmax : L.length * 4 ≤ 140737488355328) :
    Calls Try.prog 14 #[.pointer (some ⟨U.T, 0, none⟩), .int .i64 v] w fun e w' => ∃ x, e = .returned (.tuple #[x, .int .i64 0]) ∧ NewU w.heap.size w' x (rising (ofv L v)) ∧ Same w w' := by
  have HC := Lib.hid (uqcheck_any U vars L v w h)
  have ct : w.cell? ⟨U.T, 0, none⟩ = some (.slice (some ⟨U.sb, 0, none⟩) vars vars) := h.t.cell 0
  have lt := h.t.lt
  have hE : vErr vars v = 0 := if_pos ⟨by omega, by omega⟩
  have cs := h.s v hv
  have ls := h.sl
  have hk0 : (0 : Int) ≤ v := by omega
  have hk1 : (v : Int) < vars := by omega
  have hlen : (ofv L v).length * 4 ≤ 140737488355328 := by
    have := List.length_filter_le (fun p : Ent => decide (p.1.v = (v : Int))) L
    have h2 : (ofv L v).length ≤ L.length := this
    omega
  obtain ⟨w1, hw1, hS⟩ := sortedvals_any (U.mb v) (ofv L v) w (h.m v hv) hlen
  have HS := Lib.hid hS
  have HV := Lib.hid (fun w => callsIn_wide.1 (vals_in Fence.wide 5 trivial rfl (some (U.mb v)) w))
  rw [hE] at HC
  clear h hE hv hlen hmax hS
  go_enter Try.func14, Try.ntmps14
  go_wp2_with (fail)
  refine HC.out.mono ?_
  rintro e w2 ⟨rfl, rfl⟩
  clear HC
  go_wp2_with (fail)
  refine (HV.out _).mono ?_
  rintro e w3 ⟨rfl, hw3⟩
  rw [← hw1] at hw3
  subst hw3
  clear hw1 HV
  go_wp2_with (fail)
  refine HS.out.mono ?_
  rintro e w4 ⟨x, rfl, hx, hs⟩
  have HX := Lib.hid hx
  have HW := Lib.hid hs
  clear hx hs HS
  go_wp2
  go_ret2
  exact ⟨x, rfl, HX.out, HW.out⟩
set_option maxRecDepth 100000 in
theorem uqrefs_out (U : UTab) (vars : Nat) (L : List Ent) (v : Int) (hv : ¬ (0 ≤ v ∧ v < vars)) (w : World) (h : UT w U vars L) :
    Calls Try.prog 14 #[.pointer (some ⟨U.T, 0, none⟩), .int .i64 v] w fun e w' => e = .returned (.tuple #[.slice none 0 0, .int .i64 2]) ∧ w' = w := by
  have HC := Lib.hid (uqcheck_any U vars L v w h)
  rw [show vErr vars v = 2 from if_neg hv] at HC
  clear h hv
  go_enter Try.func14, Try.ntmps14
  go_wp2_with (fail)
  refine HC.out.mono ?_
  rintro e w2 ⟨rfl, rfl⟩
  clear HC
  go_wp2
  go_ret2
  exact ⟨rfl, rfl⟩
set_option maxRecDepth 100000 in
theorem uqrefs_nil (v : Int) (w : World) :
    Calls Try.prog 14 #[.pointer none, .int .i64 v] w fun e w' => e = .returned (.tuple #[.slice none 0 0, .int .i64 10]) ∧ w' = w := by
  have HC := Lib.hid (uqcheck_nil v w)
  go_enter Try.func14, Try.ntmps14
  go_wp2_with (fail)
  refine HC.out.mono ?_
  rintro e w2 ⟨rfl, rfl⟩
  clear HC
  go_wp2
  go_ret2
  exact ⟨rfl, rfl⟩
set_option maxRecDepth 100000 in
theorem uqadd_nil (n : Nd) (r : Int) (w : World) : Calls Try.prog 15 #[.pointer none, n.val, .int .u32 r] w fun e w' => e = .returned (.int .i64 10) ∧ Same w w' := by
  obtain ⟨w1, hw1⟩ : ∃ z, z = w.alloc (.cells #[.int .i64 n.v, .int .u32 n.lo, .int .u32 n.hi] 36) := ⟨_, rfl⟩
  have hs1 : Same w w1 := by rw [hw1]; exact (Frm.refl _ _).alloc _
  have hX : Blk w1 w.heap.size 36 #[.int .i64 n.v, .int .u32 n.lo, .int .u32 n.hi] := by rw [hw1]; exact Blk.new _ _ _
  obtain ⟨X, hXX⟩ : ∃ z, z = w.heap.size := ⟨_, rfl⟩
  rw [← hXX] at hX
  have cX0 : w1.cell? ⟨X, 0, none⟩ = some (.int .i64 n.v) := hX.cell 0
  have HS1 := Lib.hid hs1
  have HC := Lib.hid (uqcheck_nil n.v w1)
  clear hs1 hX
  obtain ⟨nv, nlo, nhi⟩ := n
  simp only [Nd.val] at *
  go_enter Try.func15, Try.ntmps15
  go_wp2_with (fail)
  rw [← hXX, ← hw1]
  refine HC.out.mono ?_
  rintro e w2 ⟨rfl, rfl⟩
  clear hw1 hXX HC
  go_wp2
  go_ret
  exact ⟨rfl, HS1.out⟩
set_option maxRecDepth 100000 in
theorem uqrem_nil (n : Nd) (w : World) : Calls Try.prog 16 #[.pointer none, n.val] w fun e w' => e = .returned (.int .i64 10) ∧ Same w w' := by
  obtain ⟨w1, hw1⟩ : ∃ z, z = w.alloc (.cells #[.int .i64 n.v, .int .u32 n.lo, .int .u32 n.hi] 36) := ⟨_, rfl⟩
  have hs1 : Same w w1 := by rw [hw1]; exact (Frm.refl _ _).alloc _
  have hX : Blk w1 w.heap.size 36 #[.int .i64 n.v, .int .u32 n.lo, .int .u32 n.hi] := by rw [hw1]; exact Blk.new _ _ _
  obtain ⟨X, hXX⟩ : ∃ z, z = w.heap.size := ⟨_, rfl⟩
  rw [← hXX] at hX
  have cX0 : w1.cell? ⟨X, 0, none⟩ = some (.int .i64 n.v) := hX.cell 0
  have HS1 := Lib.hid hs1
  have HC := Lib.hid (uqcheck_nil n.v w1)
  clear hs1 hX
  obtain ⟨nv, nlo, nhi⟩ := n
  simp only [Nd.val] at *
  go_enter Try.func16, Try.ntmps16
  go_wp2_with (fail)
  rw [← hXX, ← hw1]
  refine HC.out.mono ?_
  rintro e w2 ⟨rfl, rfl⟩
  clear hw1 hXX HC
  go_wp2
  go_ret
  exact ⟨rfl, HS1.out⟩
end Go.Proofs.Ytkelbbalffijbaa


/- Layer 07: awake. -/
namespace Go.Proofs.Ytkelbbalffijbaa
open Go.RowKit Go.Tk Go.Maps

def n012 : Nd := ⟨0, 1, 2⟩
theorem n012_ok : n012.ok := by unfold n012 Nd.ok; decide
set_option maxRecDepth 100000 in
set_option maxHeartbeats 4000000 in
theorem uqawake_any (w : World) : Calls Try.prog 8 #[] w fun e w' => e = .returned (.bool true) ∧ Same w w' := by
  go_enter Try.func8, Try.ntmps8
  go_wp2_with (fail)
  refine (uqnew_any 3 (by decide) (by decide) w).mono ?_
  rintro e w1 ⟨U, rfl, hs1, h1, hT, hsb, hmb⟩
  have HS1 := Lib.hid hs1
  have H1 := Lib.hid h1
  have HMB := Lib.hid hmb
  clear hs1 h1 hT hsb hmb
  go_wp2_with (fail)
  refine call_world fun w2 hw2 => ?_
  have hs2 : Same w1 w2 := by rw [hw2]; exact (Frm.refl _ _).alloc _
  have hX : Blk w2 w1.heap.size 36 #[.int .i64 0, .int .u32 1, .int .u32 2] := by rw [hw2]; exact Blk.new _ _ _
  have hlo : ∀ v, v < 3 → U.mb v < w1.heap.size := fun v hv => (H1.out.m v hv).lt
  obtain ⟨X, hXX⟩ : ∃ z, z = w1.heap.size := ⟨_, rfl⟩
  rw [← hXX] at hX hlo ⊢
  have hnX : ¬ UB U 3 X := fun ⟨v, hv, e⟩ => by have := hlo v hv; omega
  have HNX := Lib.hid hnX
  have HX := Lib.hid hX
  have HS2 := Lib.hid (HS1.out.trans hs2 (fun _ _ h => h))
  have H2 := Lib.hid (H1.out.same hs2)
  clear hs2 hX hlo hXX hnX hw2
  refine (uqadd_any U 3 [] n012 n012_ok 7 (by decide) (by decide) w2 H2.out).mono ?_
  rw [show addE 3 [] n012 = 0 by decide, show addL 3 [] n012 7 = [(n012, 7)] by decide]
  rintro e w3 ⟨rfl, h3, hf3⟩
  have HF3 := Lib.hid (HS2.out.trans hf3 (fun i hi (h : UB U 3 i) => by obtain ⟨v, hv, rfl⟩ := h; have := HMB.out v hv; omega))
  have hX3 := HX.out.frm hf3 HNX.out
  have c0 : w3.cell? ⟨X, 0, none⟩ = some (.int .i64 0) := hX3.cell 0
  have c1 : w3.cell? ⟨X, 1, none⟩ = some (.int .u32 1) := hX3.cell 1
  have c2 : w3.cell? ⟨X, 2, none⟩ = some (.int .u32 2) := hX3.cell 2
  have lX := hX3.lt
  have HX3 := Lib.hid hX3
  have H3 := Lib.hid h3
  clear h3 hf3 hX3 H2 HX H1 HS1
  go_wp2_with (fail)
  refine (uqadd_any U 3 [(n012, 7)] n012 n012_ok 8 (by decide) (by decide) w3 H3.out).mono ?_
  rw [show addE 3 [(n012, 7)] n012 = 11 by decide, show addL 3 [(n012, 7)] n012 8 = [(n012, 7)] by decide]
  rintro e w4 ⟨rfl, h4, hf4⟩
  have HF4 := Lib.hid (HF3.out.trans hf4 (fun i hi (h : UB U 3 i) => by obtain ⟨v, hv, rfl⟩ := h; have := HMB.out v hv; omega))
  have hX4 := HX3.out.frm hf4 HNX.out
  have c0 : w4.cell? ⟨X, 0, none⟩ = some (.int .i64 0) := hX4.cell 0
  have c1 : w4.cell? ⟨X, 1, none⟩ = some (.int .u32 1) := hX4.cell 1
  have c2 : w4.cell? ⟨X, 2, none⟩ = some (.int .u32 2) := hX4.cell 2
  have lX := hX4.lt
  have HX4 := Lib.hid hX4
  have H4 := Lib.hid h4
  clear h4 hf4 hX4 H3 HX3
  go_wp2_with (fail)
  refine (uqfind_any U 3 [(n012, 7)] n012 n012_ok w4 H4.out).mono ?_
  rw [show look [(n012, 7)] n012 = some 7 by decide]
  rintro e w5 ⟨rfl, hs5⟩
  have HF5 := Lib.hid (HF4.out.trans hs5 (fun _ _ h => h))
  have HX5 := Lib.hid (HX4.out.frm hs5 id)
  have H5 := Lib.hid (H4.out.same hs5)
  clear hs5 H4 HX4 c0 c1 c2
  simp only [Option.getD_some, Option.isSome_some]
  go_wp2_with (fail)
  refine (uqcount_any U 3 [(n012, 7)] 0 w5 H5.out).mono ?_
  rw [show (if (0 : Int) ≤ 0 ∧ (0 : Int) < (3 : Nat) then (ofv [(n012, 7)] (0 : Int).toNat).length else 0) = 1 by decide, show vErr 3 0 = 0 by decide]
  rintro e w6 ⟨rfl, rfl⟩
  have c0 : w6.cell? ⟨X, 0, none⟩ = some (.int .i64 0) := HX5.out.cell 0
  have c1 : w6.cell? ⟨X, 1, none⟩ = some (.int .u32 1) := HX5.out.cell 1
  have c2 : w6.cell? ⟨X, 2, none⟩ = some (.int .u32 2) := HX5.out.cell 2
  have lX := HX5.out.lt
  go_wp2_with (fail)
  refine (uqrem_any U 3 [(n012, 7)] n012 n012_ok w6 H5.out).mono ?_
  rw [show remE 3 [(n012, 7)] n012 = 0 by decide, show remL 3 [(n012, 7)] n012 = [] by decide]
  rintro e w7 ⟨rfl, h7, hf7⟩
  have HF7 := Lib.hid (HF5.out.trans hf7 (fun i hi (h : UB U 3 i) => by obtain ⟨v, hv, rfl⟩ := h; have := HMB.out v hv; omega))
  have hX7 := HX5.out.frm hf7 HNX.out
  have c0 : w7.cell? ⟨X, 0, none⟩ = some (.int .i64 0) := hX7.cell 0
  have c1 : w7.cell? ⟨X, 1, none⟩ = some (.int .u32 1) := hX7.cell 1
  have c2 : w7.cell? ⟨X, 2, none⟩ = some (.int .u32 2) := hX7.cell 2
  have lX := hX7.lt
  have H7 := Lib.hid h7
  clear h7 hf7 hX7 H5 HX5
  go_wp2_with (fail)
  refine (uqrem_any U 3 [] n012 n012_ok w7 H7.out).mono ?_
  rw [show remE 3 [] n012 = 10 by decide, show remL 3 [] n012 = [] by decide]
  rintro e w8 ⟨rfl, h8, hf8⟩
  have HF8 := Lib.hid (HF7.out.trans hf8 (fun i hi (h : UB U 3 i) => by obtain ⟨v, hv, rfl⟩ := h; have := HMB.out v hv; omega))
  clear h8 hf8
  go_wp2
  go_ret
  exact ⟨rfl, HF8.out⟩
end Go.Proofs.Ytkelbbalffijbaa


/- Layer 07: UniqueEmpty. -/
namespace Go.Proofs.Ytkelbbalffijbaa
open Go.RowKit Go.Tk Go.Maps

set_option maxRecDepth 100000 in
set_option maxHeartbeats 8000000 in
theorem uniqueEmpty_any (vars : Int) (nv nl nh : Int) (hn : Nd.ok ⟨nv, nl, nh⟩) (r : Int) (w : World) : Calls Try.prog 4 #[.int .i64 vars, .agg #[.int .i64 nv, .int .u32 nl, .int .u32 nh], .int .u32 r] w fun e w' => e = .returned (.bool true) ∧ Same w w' := by
  go_enter Try.func4, Try.ntmps4
  go_upto_region 1 with fail
  refine wp_world fun v0 hv0 => ?_
  have hs : Same w v0 := by rw [hv0]; exact (Frm.refl _ _).alloc _
  have hX : Blk v0 w.heap.size 36 #[.int .i64 nv, .int .u32 nl, .int .u32 nh] := by rw [hv0]; exact Blk.new _ _ _
  obtain ⟨X, hXX⟩ : ∃ z, z = w.heap.size := ⟨_, rfl⟩
  rw [← hXX] at hX ⊢
  have c0 : v0.cell? ⟨X, 0, none⟩ = some (.int .i64 nv) := hX.cell 0
  have c1 : v0.cell? ⟨X, 1, none⟩ = some (.int .u32 nl) := hX.cell 1
  have c2 : v0.cell? ⟨X, 2, none⟩ = some (.int .u32 nh) := hX.cell 2
  have lX := hX.lt
  have HX := Lib.hid hX
  have HS := Lib.hid hs
  clear hv0 hs hX hXX
  go_wp2_with (fail)
  refine (uqawake_any v0).mono ?_
  rintro e v1 ⟨rfl, hs⟩
  have hX := HX.out.frm hs id
  have c0 : v1.cell? ⟨X, 0, none⟩ = some (.int .i64 nv) := hX.cell 0
  have c1 : v1.cell? ⟨X, 1, none⟩ = some (.int .u32 nl) := hX.cell 1
  have c2 : v1.cell? ⟨X, 2, none⟩ = some (.int .u32 nh) := hX.cell 2
  have lX := hX.lt

  replace HX := Lib.hid hX
  replace HS := Lib.hid (HS.out.trans hs (fun _ _ h => h))
  clear hs hX
  go_wp2_with (fail)
  refine (uqfind_nil ⟨nv, nl, nh⟩ v1).mono ?_
  rintro e v2 ⟨rfl, hs⟩
  have hX := HX.out.frm hs id
  have c0 : v2.cell? ⟨X, 0, none⟩ = some (.int .i64 nv) := hX.cell 0
  have c1 : v2.cell? ⟨X, 1, none⟩ = some (.int .u32 nl) := hX.cell 1
  have c2 : v2.cell? ⟨X, 2, none⟩ = some (.int .u32 nh) := hX.cell 2
  have lX := hX.lt

  replace HX := Lib.hid hX
  replace HS := Lib.hid (HS.out.trans hs (fun _ _ h => h))
  clear hs hX
  go_wp2_with (fail)
  refine (uqcount_nil nv v2).mono ?_
  rintro e v3 ⟨rfl, hv⟩
  subst hv
  go_wp2_with (fail)
  refine (uqrefs_nil nv v3).mono ?_
  rintro e v4 ⟨rfl, hv⟩
  subst hv
  go_wp2_with (fail)
  refine (uqadd_nil ⟨nv, nl, nh⟩ r v4).mono ?_
  rintro e v5 ⟨rfl, hs⟩
  have hX := HX.out.frm hs id
  have c0 : v5.cell? ⟨X, 0, none⟩ = some (.int .i64 nv) := hX.cell 0
  have c1 : v5.cell? ⟨X, 1, none⟩ = some (.int .u32 nl) := hX.cell 1
  have c2 : v5.cell? ⟨X, 2, none⟩ = some (.int .u32 nh) := hX.cell 2
  have lX := hX.lt

  replace HX := Lib.hid hX
  replace HS := Lib.hid (HS.out.trans hs (fun _ _ h => h))
  clear hs hX
  go_wp2_with (fail)
  refine (uqrem_nil ⟨nv, nl, nh⟩ v5).mono ?_
  rintro e v6 ⟨rfl, hs⟩
  have hX := HX.out.frm hs id
  have c0 : v6.cell? ⟨X, 0, none⟩ = some (.int .i64 nv) := hX.cell 0
  have c1 : v6.cell? ⟨X, 1, none⟩ = some (.int .u32 nl) := hX.cell 1
  have c2 : v6.cell? ⟨X, 2, none⟩ = some (.int .u32 nh) := hX.cell 2
  have lX := hX.lt

  replace HX := Lib.hid hX
  replace HS := Lib.hid (HS.out.trans hs (fun _ _ h => h))
  clear hs hX
  by_cases hv : 1 ≤ vars ∧ vars ≤ 64
  · obtain ⟨N, rfl⟩ := Int.eq_ofNat_of_zero_le (show 0 ≤ vars by omega)
    have hN1 : 1 ≤ N := by omega
    have hN2 : N ≤ 64 := by omega
    have b1 : ¬ (N : Int) < 1 := by omega
    have b2 : ¬ (64 : Int) < N := by omega
    clear hv
    go_wp2_with (fail)
    refine (uqnew_any N hN1 hN2 v6).mono ?_
    rintro e u0 ⟨U, rfl, hs, hU, _, _, _⟩
    have hX := HX.out.frm hs id
    have c0 : u0.cell? ⟨X, 0, none⟩ = some (.int .i64 nv) := hX.cell 0
    have c1 : u0.cell? ⟨X, 1, none⟩ = some (.int .u32 nl) := hX.cell 1
    have c2 : u0.cell? ⟨X, 2, none⟩ = some (.int .u32 nh) := hX.cell 2
    have lX := hX.lt
    replace HX := Lib.hid hX
    replace HS := Lib.hid (HS.out.trans hs (fun _ _ h => h))
    have HU := Lib.hid hU
    clear hs hX hU
    go_wp2
    go_loopw [95] (fun i wi => wi = u0 ∧ ∃ k : Nat, i = .int .i64 k ∧ k ≤ N) (fun i _ => N - (intOf i).toNat)
    case atStart => exact ⟨rfl, 0, rfl, Nat.zero_le _⟩
    case round =>
      obtain ⟨hwr, k, rfl, hk⟩ := hrel
      subst hwr
      by_cases hlt : k < N
      · have hk0 : (0 : Int) ≤ k := by omega
        have hk1 : (k : Int) < N := by omega
        have hcnt := uqcount_any U N [] k wr HU.out
        rw [if_pos ⟨hk0, hk1⟩, show (ofv ([] : List Ent) (k : Int).toNat).length = 0 from rfl, show vErr N k = 0 from if_pos ⟨hk0, hk1⟩] at hcnt
        have HC := Lib.hid hcnt
        clear hcnt
        go_wp2_with (fail)
        refine HC.out.mono ?_
        rintro e u1 ⟨rfl, hv⟩
        subst hv
        clear HC
        go_wp2
        go_roundw
        case rel => exact ⟨by trivial, k + 1, by go_num, hlt⟩
        case measure => simp [intOf] <;> omega
      · obtain rfl : k = N := by omega
        go_wp2_with (fail)
        refine (uqfind_any U k [] ⟨nv, nl, nh⟩ hn wr HU.out).mono ?_
        rw [show look [] ⟨nv, nl, nh⟩ = none from rfl]
        rintro e u1 ⟨rfl, hs⟩
        have HU1 := Lib.hid (HU.out.same hs)
        have HS1 := Lib.hid (HS.out.trans hs (fun _ _ h => h))
        clear hs c0 c1 c2
        simp only [Option.getD_none, Option.isSome_none]
        have hcnt := uqcount_any U k [] k u1 HU1.out
        rw [show vErr k (k : Int) = 2 from if_neg (by omega)] at hcnt
        have HC := Lib.hid hcnt
        clear hcnt
        go_wp2_with (fail)
        refine HC.out.mono ?_
        rintro e u2 ⟨rfl, hv⟩
        subst hv
        clear HC
        go_wp2_with (fail)
        refine (uqrefs_out U k [] (-1) (by omega) u2 HU1.out).mono ?_
        rintro e u3 ⟨rfl, hv⟩
        subst hv
        go_wp2
        go_ret
        exact ⟨by first | rfl | trivial, HS1.out⟩
  · go_wp2_with (fail)
    refine (uqnew_bad vars hv v6).mono ?_
    rintro e u0 ⟨rfl, hv0⟩
    subst hv0
    rcases Int.lt_or_le vars 1 with h1 | h1
    · clear hv
      go_wp2
      go_ret
      exact ⟨rfl, HS.out⟩
    · have h3 : ¬ vars < 1 := by omega
      have h2 : 64 < vars := by omega
      clear hv
      go_wp2
      go_ret
      exact ⟨rfl, HS.out⟩
end Go.Proofs.Ytkelbbalffijbaa


/- Layer 07: data that came in: nodes, calls. -/
namespace Go.Tk
open Go.RowKit
theorem Sl.unsub {α : Type} {Q : α → Prop} {w : World} {m : Nat} {f : α → List Value} {A : Option Addr} {n : Nat} {xs : List {x : α // Q x}} (h : Sl w m (fun x : {x : α // Q x} => f x.1) A n xs) : Sl w m f A n (xs.map (·.1)) ∧ ∀ x ∈ xs.map (·.1), Q x := by
  refine ⟨⟨by rw [h.len, List.length_map], fun i x hx => ?_⟩, fun x hx => ?_⟩
  · rw [List.getElem?_map] at hx
    obtain ⟨y, hy, rfl⟩ := Option.map_eq_some_iff.1 hx
    exact h.get i y hy
  · obtain ⟨y, _, rfl⟩ := List.mem_map.1 hx
    exact y.2
end Go.Tk
namespace Go.Proofs.Ytkelbbalffijbaa
open Go.RowKit Go.Tk Go.Maps

/-- one call of a script -/
structure Opu where
  k : Int
  n : Nd
  r : Int
deriving DecidableEq
def Opu.cells (o : Opu) : List Value := [.int .i64 o.k, .int .i64 o.n.v, .int .u32 o.n.lo, .int .u32 o.n.hi, .int .u32 o.r]
def Opu.ok (o : Opu) : Prop := o.n.ok ∧ (Lit.int .u32 o.r).wf = true
abbrev ndKs : List Leaf := [.int .i64, .int .u32, .int .u32]
abbrev opuKs : List Leaf := [.int .i64, .int .i64, .int .u32, .int .u32, .int .u32]
theorem nd_of {w : World} (l : List Value) (h : CellsOk w ndKs l) : ∃ n : Nd, n.ok ∧ l = n.cells := by
  simp only [CellsOk, CellOk] at h
  obtain ⟨v0, l0, rfl, ⟨n0, rfl, w0⟩, v1, l1, rfl, ⟨n1, rfl, w1⟩, v2, l2, rfl, ⟨n2, rfl, w2⟩, rfl⟩ := h
  exact ⟨⟨n0, n1, n2⟩, ⟨w0, w1, w2⟩, rfl⟩
theorem opu_of {w : World} (l : List Value) (h : CellsOk w opuKs l) : ∃ o : {o : Opu // o.ok}, l = o.1.cells := by
  simp only [CellsOk, CellOk] at h
  obtain ⟨v0, l0, rfl, ⟨n0, rfl, w0⟩, v1, l1, rfl, ⟨n1, rfl, w1⟩, v2, l2, rfl, ⟨n2, rfl, w2⟩, v3, l3, rfl, ⟨n3, rfl, w3⟩, v4, l4, rfl, ⟨n4, rfl, w4⟩, rfl⟩ := h
  exact ⟨⟨⟨n0, ⟨n1, n2, n3⟩, n4⟩, ⟨w1, w2, w3⟩, w4⟩, rfl⟩
theorem opu_ok {w : World} {v : Value} (h : CellOk w (.slice 32 opuKs) v) : ∃ A n c xs, v = .slice A n c ∧ n ≤ c ∧ c * 32 ≤ reachBytes ∧ Sl w 5 Opu.cells A n xs ∧ ∀ o ∈ xs, o.ok := by
  obtain ⟨A, n, c, xs, rfl, h1, _, h2, h3⟩ := slice_ok (fun o : {o : Opu // o.ok} => o.1.cells) (by decide) opu_of h
  obtain ⟨h4, h5⟩ := h3.unsub
  exact ⟨A, n, c, _, rfl, h1, h2, h4, h5⟩
end Go.Proofs.Ytkelbbalffijbaa


/- The walk of UqEmpty beside the given rows. -/
