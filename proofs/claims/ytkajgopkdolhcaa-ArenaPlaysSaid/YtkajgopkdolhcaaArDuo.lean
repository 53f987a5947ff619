/- The arena beside the reference's: both states, and what a call of either does to them. -/
import Derived.Test.YtkajgopkdolhcaaArRFree
import Derived.Test.YtkajgopkdolhcaaArLnk
import Derived.Test.YtkajgopkdolhcaaPh
namespace Go.Proofs.Ytkajgopkdolhcaa
open Go.RowKit Go.Tk

def Du (w : World) (g d : Nat) (pl us : Int) (ls : List Pl) (fr : List Int) (es : List Pe) (S : Nat → Prop) : Prop :=
  ∃ (A : Option Addr) (C : Nat) (A' : Option Addr) (C' : Nat) (B : Option Addr) (D : Nat), ASt w g pl us ls fr A C A' C' ∧ RSt w d pl es B D ∧ ∀ b, S b ↔ AFp g A A' b ∨ RFp d B b
/-- turned in S alone; S' is S and new blocks -/
structure Stp (S : Nat → Prop) (w w' : World) (S' : Nat → Prop) : Prop where
  frm : Frm S w w'
  new : ∀ b, S' b → S b ∨ w.heap.size ≤ b
theorem Stp.refl (S : Nat → Prop) (w : World) : Stp S w w S := ⟨Frm.refl _ _, fun _ h => .inl h⟩
theorem Stp.trans {S S' S'' : Nat → Prop} {w w' w'' : World} (h : Stp S w w' S') (k : Stp S' w' w'' S'') : Stp S w w'' S'' := by
  refine ⟨h.frm.trans k.frm (fun i hi hs => ?_), fun b hb => ?_⟩
  · rcases h.new i hs with h' | h'
    · exact h'
    · omega
  · have := h.frm.size
    rcases k.new b hb with h' | h'
    · exact h.new b h'
    · right; omega
theorem Stp.same {S S' : Nat → Prop} {w w' w'' : World} (h : Stp S w w' S') (k : Same w' w'') : Stp S w w'' S' := ⟨h.frm.trans k (fun _ _ h => h.elim), h.new⟩
theorem Stp.of_same {S : Nat → Prop} {w w' : World} (k : Same w w') : Stp S w w' S := ⟨k.mono (fun _ _ h => h.elim), fun _ h => .inl h⟩

section
variable {w : World} {g d : Nat} {pl us : Int} {ls : List Pl} {fr : List Int} {es : List Pe} {S : Nat → Prop}
theorem Du.frm {T : Nat → Prop} {w' : World} (h : Du w g d pl us ls fr es S) (hf : Frm T w w') (hs : ∀ b, S b → ¬ T b) : Du w' g d pl us ls fr es S := by
  obtain ⟨A, C, A', C', B, D, ha, hr, hS⟩ := h
  exact ⟨A, C, A', C', B, D, ha.frm hf (fun b hb => hs b ((hS b).2 (.inl hb))), hr.frm hf (fun b hb => hs b ((hS b).2 (.inr hb))), hS⟩
theorem Du.same {w' : World} (h : Du w g d pl us ls fr es S) (hf : Same w w') : Du w' g d pl us ls fr es S := h.frm hf (fun _ _ => id)
theorem Du.lt (h : Du w g d pl us ls fr es S) : ∀ b, S b → b < w.heap.size := by
  obtain ⟨A, C, A', C', B, D, ha, hr, hS⟩ := h
  intro b hb
  rcases (hS b).1 hb with h | h
  · exact ha.lt b h
  · exact hr.lt b h
theorem Du.dlt (h : Du w g d pl us ls fr es S) : d < w.heap.size := by
  obtain ⟨A, C, A', C', B, D, ha, hr, hS⟩ := h
  exact hr.blk.lt
theorem Du.apart {A : Option Addr} {C : Nat} {A' : Option Addr} {C' : Nat} {B : Option Addr} {D : Nat} (ha : ASt w g pl us ls fr A C A' C') (hr : RSt w d pl es B D) : ∀ b, AFp g A A' b → ¬ RFp d B b := by
  rintro b (rfl | h | h) (rfl | h')
  · exact ha.blk.ne hr.blk (by decide) rfl
  · obtain ⟨a, rfl, hab⟩ := h'; exact hr.own.ne_blk ha.blk (by decide) a rfl hab
  · obtain ⟨a, rfl, hab⟩ := h; exact ha.own.ne_blk hr.blk (by decide) a rfl hab
  · exact ha.own.ne_own hr.own (by decide) b h h'
  · obtain ⟨a, rfl, hab⟩ := h; exact ha.fown.ne_blk hr.blk (by decide) a rfl hab
  · exact ha.fown.ne_own hr.own (by decide) b h h'
/-- a call that turns the arena -/
theorem Du.arena {w' : World} {us' : Int} {ls' : List Pl} {fr' : List Int} {A : Option Addr} {C : Nat} {A' : Option Addr} {C' : Nat} {B : Option Addr} {D : Nat} {A2 : Option Addr} {C2 : Nat} {A2' : Option Addr} {C2' : Nat}
    (ha : ASt w g pl us ls fr A C A' C') (hr : RSt w d pl es B D) (hS : ∀ b, S b ↔ AFp g A A' b ∨ RFp d B b) (h2 : ASt w' g pl us' ls' fr' A2 C2 A2' C2') (hf : Frm (AFp g A A') w w') (hn : ∀ b, AFp g A2 A2' b → AFp g A A' b ∨ w.heap.size ≤ b) :
    ∃ S', Du w' g d pl us' ls' fr' es S' ∧ Stp S w w' S' := by
  refine ⟨fun b => AFp g A2 A2' b ∨ RFp d B b, ⟨A2, C2, A2', C2', B, D, h2, hr.frm hf (fun b hb h => Du.apart ha hr b h hb), fun _ => Iff.rfl⟩, hf.mono (fun i _ h => (hS i).2 (.inl h)), fun b hb => ?_⟩
  rcases hb with h | h
  · rcases hn b h with h | h
    · exact .inl ((hS b).2 (.inl h))
    · exact .inr h
  · exact .inl ((hS b).2 (.inr h))
theorem Du.ref {w' : World} {es' : List Pe} {A : Option Addr} {C : Nat} {A' : Option Addr} {C' : Nat} {B : Option Addr} {D : Nat} {B2 : Option Addr} {D2 : Nat}
    (ha : ASt w g pl us ls fr A C A' C') (hr : RSt w d pl es B D) (hS : ∀ b, S b ↔ AFp g A A' b ∨ RFp d B b) (h2 : RSt w' d pl es' B2 D2) (hf : Frm (RFp d B) w w') (hn : ∀ b, rowOf B2 b → rowOf B b ∨ w.heap.size ≤ b) :
    ∃ S', Du w' g d pl us ls fr es' S' ∧ Stp S w w' S' := by
  refine ⟨fun b => AFp g A A' b ∨ RFp d B2 b, ⟨A, C, A', C', B2, D2, ha.frm hf (fun b hb h => Du.apart ha hr b hb h), h2, fun _ => Iff.rfl⟩, hf.mono (fun i _ h => (hS i).2 (.inr h)), fun b hb => ?_⟩
  rcases hb with h | h | h
  · exact .inl ((hS b).2 (.inl h))
  · exact .inl ((hS b).2 (.inr (.inl h)))
  · rcases hn b h with h | h
    · exact .inl ((hS b).2 (.inr (.inr h)))
    · exact .inr h

/-- a call leaves both states as they were, or turns one -/
def ACall (f : FuncId) (args : Array Value) (v : Value) (w : World) (g d : Nat) (pl us : Int) (ls : List Pl) (fr : List Int) (es : List Pe) (S : Nat → Prop) (us' : Int) (ls' : List Pl) (fr' : List Int) (es' : List Pe) : Prop :=
  Du w g d pl us ls fr es S → Calls Try.prog f args w fun e w' => e = .returned v ∧ ∃ S', Du w' g d pl us' ls' fr' es' S' ∧ Stp S w w' S'
theorem Du.idle {f : FuncId} {args : Array Value} {v : Value} (hd : Du w g d pl us ls fr es S) (h : Calls Try.prog f args w fun e w' => e = .returned v ∧ Same w w') :
    Calls Try.prog f args w fun e w' => e = .returned v ∧ ∃ S', Du w' g d pl us ls fr es S' ∧ Stp S w w' S' :=
  h.mono fun _ _ ⟨he, hs⟩ => ⟨he, S, hd.same hs, .of_same hs⟩
theorem Du.idle' {f : FuncId} {args : Array Value} {v : Value} (hd : Du w g d pl us ls fr es S) (h : Calls Try.prog f args w fun e w' => e = .returned v ∧ w = w') :
    Calls Try.prog f args w fun e w' => e = .returned v ∧ ∃ S', Du w' g d pl us ls fr es S' ∧ Stp S w w' S' :=
  h.mono fun _ _ ⟨he, hs⟩ => ⟨he, S, hs ▸ hd, hs ▸ .refl _ _⟩

theorem alloc_duo (l : ALnk pl us ls fr es) (n : Nd) (hl0 : 0 ≤ n.lo) (hl1 : n.lo < 4294967296) (hh0 : 0 ≤ n.hi) (hh1 : n.hi < 4294967296) :
    ∃ (q e us' : Int) (ls' : List Pl) (fr' : List Int), rall es pl n = e ∧ 0 ≤ q ∧ q < 4294967296 ∧
      (∀ w S, ACall 9 #[.pointer (some ⟨g, 0, none⟩), n.val] (.tuple #[.int .u32 q, .int .i64 e]) w g d pl us ls fr es S us' ls' fr' es) ∧
      (e ≠ 0 ∧ q = 0 ∧ ALnk pl us' ls' fr' es ∨ e = 0 ∧ ¬ q ≤ 1 ∧ q < pl ∧ fndI es q = -1 ∧ ALnk pl us' ls' fr' (es ++ [⟨q, n, 0⟩])) := by
  have hck := l.ck_eq hl0 hh0
  have hlen := l.len
  have hus := l.us
  have hpl1 := l.pl1
  have hroom := l.room
  by_cases hc : ckN ls n = 0
  · rcases List.eq_nil_or_concat fr with rfl | ⟨fr0, r, rfl⟩
    · simp at hlen
      by_cases hf : pl ≤ ls.length
      · refine ⟨0, 9, us, ls, [], ?_, by omega, by omega, fun w S hd => ?_, .inl ⟨by omega, rfl, l⟩⟩
        · unfold rall
          rw [← hck, hc, if_neg (by simp), if_pos (by omega)]
        · obtain ⟨A, C, A', C', B, D, ha, hr, hS⟩ := id hd
          exact hd.idle (alloc_full ha n hl0 hl1 hh0 hh1 hc hf)
      · obtain ⟨h1, h2⟩ := l.push n (by omega)
        refine ⟨ls.length, 0, us + 1, _, [], ?_, by omega, by omega, fun w S hd => ?_, .inr ⟨rfl, by omega, by omega, h1, h2⟩⟩
        · unfold rall
          rw [← hck, hc, if_neg (by simp), if_neg (by omega)]
        · obtain ⟨A, C, A', C', B, D, ha, hr, hS⟩ := id hd
          refine (alloc_push ha n hl0 hl1 hh0 hh1 hc (by omega) hpl1 (by omega)).mono fun e w' ⟨he, A2, C2, h2, h3, h4⟩ => ⟨he, Du.arena ha hr hS h2 h3 (fun b hb => ?_)⟩
          rcases hb with h | h | h
          · exact .inl (.inl h)
          · rcases h4 b h with h | h
            · exact .inl (.inr (.inl h))
            · exact .inr h
          · exact .inl (.inr (.inr h))
    · rw [List.concat_eq_append] at l hlen ⊢
      obtain ⟨k, rfl, h1, h2, h3, h4, h5⟩ := l.pop n
      simp at hlen
      refine ⟨k, 0, us + 1, _, fr0, ?_, by omega, by omega, fun w S hd => ?_, .inr ⟨rfl, by omega, by omega, h3, h5⟩⟩
      · unfold rall
        rw [← hck, hc, if_neg (by simp), if_neg (by omega)]
      · obtain ⟨A, C, A', C', B, D, ha, hr, hS⟩ := id hd
        exact (alloc_pop ha n hl0 hl1 hh0 hh1 hc h2 (by omega)).mono fun e w' ⟨he, h2, h3⟩ => ⟨he, Du.arena ha hr hS h2 h3 (fun b hb => .inl hb)⟩
  · refine ⟨0, ckN ls n, us, ls, fr, ?_, by omega, by omega, fun w S hd => ?_, .inl ⟨hc, rfl, l⟩⟩
    · unfold rall
      rw [← hck, if_pos hc]
    · obtain ⟨A, C, A', C', B, D, ha, hr, hS⟩ := id hd
      exact hd.idle (alloc_bad ha n hl0 hl1 hh0 hh1 hc)
theorem docAlloc_duo (n : Nd) (hd : Du w g d pl us ls fr es S) : Calls Try.prog 26 #[.pointer (some ⟨d, 0, none⟩), n.val] w fun e w' => e = .returned (.int .i64 (rall es pl n)) ∧ Same w w' := by
  obtain ⟨A, C, A', C', B, D, ha, hr, hS⟩ := hd
  exact hr.docAlloc n
theorem take_duo (n : Nd) (r : Int) (hr : ¬ r ≤ 1) (hrp : r < pl) (hr1 : r < 4294967296) (hf : fndI es r = -1) (hl : es.length < 1048576) :
    ACall 27 #[.pointer (some ⟨d, 0, none⟩), n.val, .int .u32 r] (.bool true) w g d pl us ls fr es S us ls fr (es ++ [⟨r, n, 0⟩]) := by
  intro hd
  obtain ⟨A, C, A', C', B, D, ha, hrs, hS⟩ := hd
  exact (hrs.takeS n r hr hrp hr1 hf hl).mono fun e w' ⟨he, B2, D2, h2, h3, h4⟩ => ⟨he, Du.ref ha hrs hS h2 h3 h4⟩

theorem free_duo (l : ALnk pl us ls fr es) (r : Int) (hr0 : 0 ≤ r) (hr1 : r < 4294967296) :
    ∃ (e us' : Int) (ls' : List Pl) (fr' : List Int) (es' : List Pe), ALnk pl us' ls' fr' es' ∧
      (∀ w S, ACall 11 #[.pointer (some ⟨g, 0, none⟩), .int .u32 r] (.int .i64 e) w g d pl us ls fr es S us' ls' fr' es) ∧
      (∀ w S, ACall 28 #[.pointer (some ⟨d, 0, none⟩), .int .u32 r] (.int .i64 e) w g d pl us' ls' fr' es S us' ls' fr' es') := by
  have hlen := l.len
  have hus := l.us
  have hpl1 := l.pl1
  have hroom := l.room
  have key : fndI es r = -1 → ownE ls r = 3 → ∃ (e us' : Int) (ls' : List Pl) (fr' : List Int) (es' : List Pe), ALnk pl us' ls' fr' es' ∧
      (∀ w S, ACall 11 #[.pointer (some ⟨g, 0, none⟩), .int .u32 r] (.int .i64 e) w g d pl us ls fr es S us' ls' fr' es) ∧
      (∀ w S, ACall 28 #[.pointer (some ⟨d, 0, none⟩), .int .u32 r] (.int .i64 e) w g d pl us' ls' fr' es S us' ls' fr' es') := fun h1 h2 => by
    refine ⟨3, us, ls, fr, es, l, fun w S hd => ?_, fun w S hd => ?_⟩
    · obtain ⟨A, C, A', C', B, D, ha, hr, hS⟩ := id hd
      have := free_bad ha r hr0 hr1 (by omega)
      rw [h2] at this
      exact hd.idle' this
    · obtain ⟨A, C, A', C', B, D, ha, hr, hS⟩ := id hd
      exact hd.idle' (hr.freeN r h1)
  rcases l.place_cases r hr0 with ⟨k, rfl, hk, hp, ht, ho⟩ | ⟨k, rfl, hk, ht, hf, ho⟩ | ⟨k, p, n, rfl, hk, hp, hpt, hf, hn, ht, ho⟩
  · refine key (fnd_none fun n e he heq => ?_) ho
    obtain ⟨r', p', h1, h2, _⟩ := l.ent n e he
    omega
  · exact key hf ho
  · refine ⟨0, us - 1, _, _, _, l.del hk hp hpt hn, fun w S hd => ?_, fun w S hd => ?_⟩
    · obtain ⟨A, C, A', C', B, D, ha, hr, hS⟩ := id hd
      refine (free_ok ha hr1 ho (by omega) (by omega)).mono fun e w' ⟨he, A2, C2, h2, h3, h4⟩ => ⟨he, Du.arena ha hr hS h2 h3 (fun b hb => ?_)⟩
      rcases hb with h | h | h
      · exact .inl (.inl h)
      · exact .inl (.inr (.inl h))
      · rcases h4 b h with h | h
        · exact .inl (.inr (.inr h))
        · exact .inr h
    · obtain ⟨A, C, A', C', B, D, ha, hr, hS⟩ := id hd
      exact (hr.freeS k hf hn).mono fun e w' ⟨he, B2, D2, h2, h3, h4⟩ => ⟨he, Du.ref ha hr hS h2 h3 h4⟩
/-- Get of both -/
theorem get_duo (l : ALnk pl us ls fr es) (r : Int) (hr0 : 0 ≤ r) (hr1 : r < 4294967296) :
    ∃ (n : Nd) (e : Int), (∀ w S, Du w g d pl us ls fr es S → Calls Try.prog 12 #[.pointer (some ⟨g, 0, none⟩), .int .u32 r] w fun x w' => x = .returned (.tuple #[n.val, .int .i64 e]) ∧ Same w w') ∧
      (∀ w S, Du w g d pl us ls fr es S → Calls Try.prog 29 #[.pointer (some ⟨d, 0, none⟩), .int .u32 r] w fun x w' => x = .returned (.tuple #[n.val, .int .i64 e]) ∧ Same w w') := by
  refine ⟨getN ls r, getE ls r, fun w S hd => ?_, fun w S hd => ?_⟩
  · obtain ⟨A, C, A', C', B, D, ha, hr, hS⟩ := id hd
    exact ha.get r hr0 hr1
  · obtain ⟨A, C, A', C', B, D, ha, hr, hS⟩ := id hd
    rcases l.place_cases r hr0 with ⟨k, rfl, hk, hp, ht, ho⟩ | ⟨k, rfl, hk, ht, hf, ho⟩ | ⟨k, p, n, rfl, hk, hp, hpt, hf, hn, ht, ho⟩
    · have h1 : getN ls k = ⟨-1, k, k⟩ := by simp [getN, hp, cpl]
      have h2 : getE ls k = 0 := by simp [getE, ht]
      rw [h1, h2]
      exact RSt.get1 _ (by omega)
    · have h1 : getN ls k = zNd := by
        unfold getN
        unfold tk at ht
        cases h : ls[(k : Int).toNat]? with
        | none => rfl
        | some p => rw [h] at ht; simp at ht; simp [ht]
      have h2 : getE ls k = 3 := by simp [getE, ht]
      rw [h1, h2]
      exact hr.getN _ (by omega) hf
    · have h1 : getN ls k = p.n := by simp [getN, hp, hpt]
      have h2 : getE ls k = 0 := by simp [getE, ht]
      rw [h1, h2]
      exact hr.getS _ (by omega) hf hn
theorem count_duo (l : ALnk pl us ls fr es) (r : Int) (hr0 : 0 ≤ r) (hr1 : r < 4294967296) :
    ∃ (n e : Int), (∀ w S, Du w g d pl us ls fr es S → Calls Try.prog 16 #[.pointer (some ⟨g, 0, none⟩), .int .u32 r] w fun x w' => x = .returned (.tuple #[.int .i64 n, .int .i64 e]) ∧ w = w') ∧
      (∀ w S, Du w g d pl us ls fr es S → Calls Try.prog 32 #[.pointer (some ⟨d, 0, none⟩), .int .u32 r] w fun x w' => x = .returned (.tuple #[.int .i64 n, .int .i64 e]) ∧ w = w') := by
  refine ⟨cntN ls r, getE ls r, fun w S hd => ?_, fun w S hd => ?_⟩
  · obtain ⟨A, C, A', C', B, D, ha, hr, hS⟩ := id hd
    exact ha.count r hr0 hr1 l.cnt
  · obtain ⟨A, C, A', C', B, D, ha, hr, hS⟩ := id hd
    rcases l.place_cases r hr0 with ⟨k, rfl, hk, hp, ht, ho⟩ | ⟨k, rfl, hk, ht, hf, ho⟩ | ⟨k, p, n, rfl, hk, hp, hpt, hf, hn, ht, ho⟩
    · have h1 : cntN ls k = 255 := by simp [cntN, hp, cpl]
      have h2 : getE ls k = 0 := by simp [getE, ht]
      rw [h1, h2]
      exact RSt.count1 _ (by omega)
    · have h1 : cntN ls k = 0 := by
        unfold cntN
        unfold tk at ht
        cases h : ls[(k : Int).toNat]? with
        | none => rfl
        | some p => rw [h] at ht; simp at ht; simp [ht]
      have h2 : getE ls k = 3 := by simp [getE, ht]
      rw [h1, h2]
      exact hr.countN _ (by omega) hf
    · have h1 : cntN ls k = p.c := by simp [cntN, hp, hpt]
      have h2 : getE ls k = 0 := by simp [getE, ht]
      rw [h1, h2]
      exact hr.countS _ (by omega) hf hn
theorem set_duo (l : ALnk pl us ls fr es) (r : Int) (n : Nd) (hr0 : 0 ≤ r) (hr1 : r < 4294967296) (hl0 : 0 ≤ n.lo) (hl1 : n.lo < 4294967296) (hh0 : 0 ≤ n.hi) (hh1 : n.hi < 4294967296) :
    ∃ (e us' : Int) (ls' : List Pl) (fr' : List Int) (es' : List Pe), ALnk pl us' ls' fr' es' ∧
      (∀ w S, ACall 17 #[.pointer (some ⟨g, 0, none⟩), .int .u32 r, n.val] (.int .i64 e) w g d pl us ls fr es S us' ls' fr' es) ∧
      (∀ w S, ACall 30 #[.pointer (some ⟨d, 0, none⟩), .int .u32 r, n.val] (.int .i64 e) w g d pl us' ls' fr' es S us' ls' fr' es') := by
  have hck := l.ck_eq hl0 hh0
  by_cases hc : ckN ls n = 0
  · have key : fndI es r = -1 → ownE ls r = 3 → ∃ (e us' : Int) (ls' : List Pl) (fr' : List Int) (es' : List Pe), ALnk pl us' ls' fr' es' ∧
        (∀ w S, ACall 17 #[.pointer (some ⟨g, 0, none⟩), .int .u32 r, n.val] (.int .i64 e) w g d pl us ls fr es S us' ls' fr' es) ∧
        (∀ w S, ACall 30 #[.pointer (some ⟨d, 0, none⟩), .int .u32 r, n.val] (.int .i64 e) w g d pl us' ls' fr' es S us' ls' fr' es') := fun h1 h2 => by
      refine ⟨3, us, ls, fr, es, l, fun w S hd => ?_, fun w S hd => ?_⟩
      · obtain ⟨A, C, A', C', B, D, ha, hr, hS⟩ := id hd
        have := set_bad2 ha r n hr0 hr1 hl0 hl1 hh0 hh1 hc (by omega)
        rw [h2] at this
        exact hd.idle this
      · obtain ⟨A, C, A', C', B, D, ha, hr, hS⟩ := id hd
        exact hd.idle (hr.setN r n (by omega) h1)
    rcases l.place_cases r hr0 with ⟨k, rfl, hk, hp, ht, ho⟩ | ⟨k, rfl, hk, ht, hf, ho⟩ | ⟨k, p, m, rfl, hk, hp, hpt, hf, hn, ht, ho⟩
    · refine key (fnd_none fun n e he heq => ?_) ho
      obtain ⟨r', p', h1, h2, _⟩ := l.ent n e he
      omega
    · exact key hf ho
    · have hpc := l.cnt p (List.mem_of_getElem? hp)
      refine ⟨0, us, _, _, _, l.upd hk hp hpt hn n hpc.1 hpc.2, fun w S hd => ?_, fun w S hd => ?_⟩
      · obtain ⟨A, C, A', C', B, D, ha, hr, hS⟩ := id hd
        exact (set_ok ha n hr1 hl0 hl1 hh0 hh1 hc ho hp).mono fun e w' ⟨he, h2, h3⟩ => ⟨he, Du.arena ha hr hS h2 h3 (fun b hb => .inl hb)⟩
      · obtain ⟨A, C, A', C', B, D, ha, hr, hS⟩ := id hd
        exact (hr.setS k n (by omega) hf hn).mono fun e w' ⟨he, h2, h3⟩ => ⟨he, Du.ref ha hr hS h2 h3 (fun b hb => .inl hb)⟩
  · refine ⟨ckN ls n, us, ls, fr, es, l, fun w S hd => ?_, fun w S hd => ?_⟩
    · obtain ⟨A, C, A', C', B, D, ha, hr, hS⟩ := id hd
      exact hd.idle (set_bad ha r n hl0 hl1 hh0 hh1 hc)
    · obtain ⟨A, C, A', C', B, D, ha, hr, hS⟩ := id hd
      have := hr.setB r n (by omega)
      rw [← hck] at this
      exact hd.idle this
theorem up_duo (l : ALnk pl us ls fr es) (r : Int) (hr0 : 0 ≤ r) (hr1 : r < 4294967296) :
    ∃ (e us' : Int) (ls' : List Pl) (fr' : List Int) (es' : List Pe), ALnk pl us' ls' fr' es' ∧
      (∀ w S, ACall 18 #[.pointer (some ⟨g, 0, none⟩), .int .u32 r] (.int .i64 e) w g d pl us ls fr es S us' ls' fr' es) ∧
      (∀ w S, ACall 36 #[.pointer (some ⟨d, 0, none⟩), .int .u32 r] (.int .i64 e) w g d pl us' ls' fr' es S us' ls' fr' es') := by
  rcases l.place_cases r hr0 with ⟨k, rfl, hk, hp, ht, ho⟩ | ⟨k, rfl, hk, ht, hf, ho⟩ | ⟨k, p, m, rfl, hk, hp, hpt, hf, hn, ht, ho⟩
  · refine ⟨0, us, ls, fr, es, l, fun w S hd => ?_, fun w S hd => ?_⟩
    · obtain ⟨A, C, A', C', B, D, ha, hr, hS⟩ := id hd
      refine (up_ok ha hr1 hp rfl (by simp [cpl]) (by simp [cpl])).mono fun e w' ⟨he, h2, h3⟩ => ⟨he, ?_⟩
      rw [upSelf hp] at h2
      exact Du.arena ha hr hS h2 h3 (fun b hb => .inl hb)
    · exact hd.idle' (RSt.up1 _ (by omega))
  · refine ⟨3, us, ls, fr, es, l, fun w S hd => ?_, fun w S hd => ?_⟩
    · obtain ⟨A, C, A', C', B, D, ha, hr, hS⟩ := id hd
      exact hd.idle' (up_bad ha _ hr0 hr1 ht)
    · obtain ⟨A, C, A', C', B, D, ha, hr, hS⟩ := id hd
      exact hd.idle' (hr.upN _ (by omega) hf)
  · have hpc := l.cnt p (List.mem_of_getElem? hp)
    have hu := upC_range hpc.1 hpc.2
    refine ⟨0, us, _, _, _, l.upd hk hp hpt hn p.n hu.1 hu.2, fun w S hd => ?_, fun w S hd => ?_⟩
    · obtain ⟨A, C, A', C', B, D, ha, hr, hS⟩ := id hd
      exact (up_ok ha hr1 hp hpt hpc.1 hpc.2).mono fun e w' ⟨he, h2, h3⟩ => ⟨he, Du.arena ha hr hS h2 h3 (fun b hb => .inl hb)⟩
    · obtain ⟨A, C, A', C', B, D, ha, hr, hS⟩ := id hd
      exact (hr.upS k (by omega) hf hn hpc.1 hpc.2).mono fun e w' ⟨he, h2, h3⟩ => ⟨he, Du.ref ha hr hS h2 h3 (fun b hb => .inl hb)⟩
theorem down_duo (l : ALnk pl us ls fr es) (r : Int) (hr0 : 0 ≤ r) (hr1 : r < 4294967296) :
    ∃ (e us' : Int) (ls' : List Pl) (fr' : List Int) (es' : List Pe), ALnk pl us' ls' fr' es' ∧
      (∀ w S, ACall 19 #[.pointer (some ⟨g, 0, none⟩), .int .u32 r] (.int .i64 e) w g d pl us ls fr es S us' ls' fr' es) ∧
      (∀ w S, ACall 37 #[.pointer (some ⟨d, 0, none⟩), .int .u32 r] (.int .i64 e) w g d pl us' ls' fr' es S us' ls' fr' es') := by
  rcases l.place_cases r hr0 with ⟨k, rfl, hk, hp, ht, ho⟩ | ⟨k, rfl, hk, ht, hf, ho⟩ | ⟨k, p, m, rfl, hk, hp, hpt, hf, hn, ht, ho⟩
  · refine ⟨0, us, ls, fr, es, l, fun w S hd => ?_, fun w S hd => ?_⟩
    · obtain ⟨A, C, A', C', B, D, ha, hr, hS⟩ := id hd
      refine (down_ok ha hr1 hp rfl (by simp [cpl]) (by simp [cpl])).mono fun e w' ⟨he, h2, h3⟩ => ⟨he, ?_⟩
      rw [dnSelf hp] at h2
      exact Du.arena ha hr hS h2 h3 (fun b hb => .inl hb)
    · exact hd.idle' (RSt.down1 _ (by omega))
  · refine ⟨3, us, ls, fr, es, l, fun w S hd => ?_, fun w S hd => ?_⟩
    · obtain ⟨A, C, A', C', B, D, ha, hr, hS⟩ := id hd
      exact hd.idle' (down_bad ha _ hr0 hr1 ht)
    · obtain ⟨A, C, A', C', B, D, ha, hr, hS⟩ := id hd
      exact hd.idle' (hr.downN _ (by omega) hf)
  · have hpc := l.cnt p (List.mem_of_getElem? hp)
    have hu := dnC_range hpc.1 hpc.2
    refine ⟨if p.c = 0 then 7 else 0, us, _, _, _, l.upd hk hp hpt hn p.n hu.1 hu.2, fun w S hd => ?_, fun w S hd => ?_⟩
    · obtain ⟨A, C, A', C', B, D, ha, hr, hS⟩ := id hd
      exact (down_ok ha hr1 hp hpt hpc.1 hpc.2).mono fun e w' ⟨he, h2, h3⟩ => ⟨he, Du.arena ha hr hS h2 h3 (fun b hb => .inl hb)⟩
    · obtain ⟨A, C, A', C', B, D, ha, hr, hS⟩ := id hd
      exact (hr.downS k (by omega) hf hn hpc.1 hpc.2).mono fun e w' ⟨he, h2, h3⟩ => ⟨he, Du.ref ha hr hS h2 h3 (fun b hb => .inl hb)⟩
end
end Go.Proofs.Ytkajgopkdolhcaa
