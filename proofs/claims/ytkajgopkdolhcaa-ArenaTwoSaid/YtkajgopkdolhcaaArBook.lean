/- The book of an arena beside the reference's: its state, place, turn. -/
import Derived.Test.YtkajgopkdolhcaaArDuo
namespace Go.Proofs.Ytkajgopkdolhcaa
open Go.RowKit Go.Tk

structure BkC (w : World) (bb g d : Nat) (pl us : Int) (ls : List Pl) (fr : List Int) (es : List Pe) (S : Nat → Prop) (ks : List Int) (KA : Option Addr) (KC : Nat) : Prop where
  blk : Blk w bb 63 #[.pointer (some ⟨g, 0, none⟩), .pointer (some ⟨d, 0, none⟩), .slice KA ks.length KC]
  du : Du w g d pl us ls fr es S
  own : Row1 w 30 rc KA ks.length KC ks
  kap : ∀ b, rowOf KA b → ¬ S b
  bap : ¬ S bb
  kb : ∀ r : Int, r ∈ ks → 0 ≤ r ∧ r < 4294967296
  kpos : 0 < ks.length
def BFp (bb : Nat) (S : Nat → Prop) (KA : Option Addr) (b : Nat) : Prop := b = bb ∨ rowOf KA b ∨ S b
def Bk (w : World) (bb : Nat) (pl : Int) (K : Nat) (T : Nat → Prop) : Prop :=
  ∃ (g d : Nat) (us : Int) (ls : List Pl) (fr : List Int) (es : List Pe) (S : Nat → Prop) (ks : List Int) (KA : Option Addr) (KC : Nat), BkC w bb g d pl us ls fr es S ks KA KC ∧ ALnk pl us ls fr es ∧ ks.length ≤ K + 2 ∧ ∀ b, T b ↔ BFp bb S KA b

section
variable {w : World} {bb g d : Nat} {pl us : Int} {ls : List Pl} {fr : List Int} {es : List Pe} {S : Nat → Prop} {ks : List Int} {KA : Option Addr} {KC : Nat}
theorem BkC.rowne (h : BkC w bb g d pl us ls fr es S ks KA KC) : ∀ b, rowOf KA b → b ≠ bb ∧ b < w.heap.size := by
  rintro b ⟨a, ha, rfl⟩
  exact ⟨h.own.ne_blk h.blk (by decide) a ha, h.own.block a ha⟩
theorem BkC.step {w' : World} {us' : Int} {ls' : List Pl} {fr' : List Int} {es' : List Pe} {S' : Nat → Prop} (h : BkC w bb g d pl us ls fr es S ks KA KC) (hd : Du w' g d pl us' ls' fr' es' S') (hs : Stp S w w' S') :
    BkC w' bb g d pl us' ls' fr' es' S' ks KA KC := by
  refine ⟨h.blk.frm hs.frm h.bap, hd, h.own.frm hs.frm (fun a ha => h.kap _ ⟨a, ha, rfl⟩), fun b hb hS => ?_, fun hS => ?_, h.kb, h.kpos⟩
  · rcases hs.new b hS with h' | h'
    · exact h.kap b hb h'
    · have := (h.rowne b hb).2
      omega
  · rcases hs.new _ hS with h' | h'
    · exact h.bap h'
    · have := h.blk.lt
      omega
theorem BkC.frm {T : Nat → Prop} {w' : World} (h : BkC w bb g d pl us ls fr es S ks KA KC) (hf : Frm T w w') (hs : ∀ b, BFp bb S KA b → ¬ T b) : BkC w' bb g d pl us ls fr es S ks KA KC :=
  ⟨h.blk.frm hf (hs _ (.inl rfl)), h.du.frm hf (fun b hb => hs b (.inr (.inr hb))), h.own.frm hf (fun a ha => hs _ (.inr (.inl ⟨a, ha, rfl⟩))), h.kap, h.bap, h.kb, h.kpos⟩
theorem BkC.same {w' : World} (h : BkC w bb g d pl us ls fr es S ks KA KC) (hf : Same w w') : BkC w' bb g d pl us ls fr es S ks KA KC := h.frm hf (fun _ _ => id)
theorem BkC.lt (h : BkC w bb g d pl us ls fr es S ks KA KC) : ∀ b, BFp bb S KA b → b < w.heap.size := by
  rintro b (rfl | hb | hb)
  · exact h.blk.lt
  · exact (h.rowne b hb).2
  · exact h.du.lt b hb
theorem Bk.frm {w w' : World} {T S : Nat → Prop} {bb K : Nat} {pl : Int} (h : Bk w bb pl K S) (hf : Frm T w w') (hs : ∀ b, S b → ¬ T b) : Bk w' bb pl K S := by
  obtain ⟨g, d, us, ls, fr, es, S0, ks, KA, KC, hc, hl, h2, h3⟩ := h
  exact ⟨g, d, us, ls, fr, es, S0, ks, KA, KC, hc.frm hf (fun b hb => hs b ((h3 b).2 hb)), hl, h2, h3⟩
theorem Bk.lt {w : World} {S : Nat → Prop} {bb K : Nat} {pl : Int} (h : Bk w bb pl K S) : ∀ b, S b → b < w.heap.size := by
  obtain ⟨g, d, us, ls, fr, es, S0, ks, KA, KC, hc, hl, h2, h3⟩ := h
  exact fun b hb => hc.lt b ((h3 b).1 hb)
theorem Bk.mono {w : World} {S : Nat → Prop} {bb K K' : Nat} {pl : Int} (h : Bk w bb pl K S) (hk : K ≤ K') : Bk w bb pl K' S := by
  obtain ⟨g, d, us, ls, fr, es, S0, ks, KA, KC, hc, hl, h2, h3⟩ := h
  exact ⟨g, d, us, ls, fr, es, S0, ks, KA, KC, hc, hl, by omega, h3⟩

/-- the place that a number names -/
def pkR (ks : List Int) (i : Int) (raw : Bool) : Int := if raw then IntKind.u32.wrap i else ks.getD (IntKind.u64.wrap i % ks.length).toNat 0
theorem u32_range (i : Int) : 0 ≤ IntKind.u32.wrap i ∧ IntKind.u32.wrap i < 4294967296 := by
  simp only [IntKind.wrap_u32]
  omega
theorem pkR_range (h : BkC w bb g d pl us ls fr es S ks KA KC) (i : Int) (raw : Bool) : 0 ≤ pkR ks i raw ∧ pkR ks i raw < 4294967296 := by
  unfold pkR
  split
  · exact u32_range i
  · have hk := h.kpos
    have hl : (IntKind.u64.wrap i % ks.length).toNat < ks.length := by
      have := Int.emod_lt_of_pos (IntKind.u64.wrap i) (show (0 : Int) < ks.length by omega)
      have := Int.emod_nonneg (IntKind.u64.wrap i) (show (ks.length : Int) ≠ 0 by omega)
      omega
    rw [List.getD_eq_getElem?_getD, List.getElem?_eq_getElem hl]
    exact h.kb _ (List.getElem_mem hl)
set_option maxHeartbeats 1000000 in
theorem BkC.place (h : BkC w bb g d pl us ls fr es S ks KA KC) (hk : ks.length ≤ 1000000) (i : Int) (raw : Bool) :
    Calls Try.prog 25 #[.pointer (some ⟨bb, 0, none⟩), .int .i64 i, .bool raw] w fun e w' => e = .returned (.int .u32 (pkR ks i raw)) ∧ Same w w' := by
  cases raw with
  | true =>
    go_enter Try.func25, Try.ntmps25
    go_wp2_with (fail)
    go_ret
    exact ⟨ret_int (by simp [pkR, IntKind.wrap_u32]), Frm.refl _ _⟩
  | false =>
    have hkp := h.kpos
    have b2 := h.blk.cell 2
    have hbb := h.blk.lt
    simp at b2
    obtain ⟨m, hm, hml⟩ : ∃ m : Nat, IntKind.u64.wrap i % (ks.length : Int) = m ∧ m < ks.length := by
      have := Int.emod_lt_of_pos (IntKind.u64.wrap i) (show (0 : Int) < ks.length by omega)
      have := Int.emod_nonneg (IntKind.u64.wrap i) (show (ks.length : Int) ≠ 0 by omega)
      exact ⟨(IntKind.u64.wrap i % ks.length).toNat, by omega, by omega⟩
    obtain ⟨x, hx⟩ : ∃ x, ks[m]? = some x := ⟨_, List.getElem?_eq_getElem hml⟩
    obtain ⟨sb, rfl, hsb, hc⟩ := h.own.at1 hx
    have hres : pkR ks i false = x := by
      unfold pkR
      rw [if_neg (by simp), hm]
      simp [hx]
    rw [hres]
    have HR := Lib.hid hres
    have HX := Lib.hid hx
    clear hres hx h
    unfold rc at hc
    go_enter Try.func25, Try.ntmps25
    go_wp2_with (fail)
    have hw0 : IntKind.u64.wrap (ks.length : Int) = ks.length := IntWalk.u64_in _ (by omega)
    have hw1 : IntKind.i64.wrap (m : Int) = m := IntWalk.i64_in _ (by omega)
    have hw2 : (IntKind.u64.wrap i).tmod (ks.length : Int) = m := by rw [Int.tmod_eq_emod_of_nonneg (by simp only [IntKind.wrap_u64]; omega)]; exact hm
    have hw3 : (ks.length : Int) ≠ 0 := by omega
    have hm1 : (m : Int) < ks.length := by omega
    have hm0 : (0 : Int) ≤ m := by omega
    clear hm
    refine wp_quiet (by kernel_rfl) (by kernel_rfl) ?_
    repeat (any_goals (first | go_big_quiet_step (fail) | quiet_step (fail)))
    refine wpQuiet_nil ?_
    rintro _ ⟨q, rfl⟩
    clear hw0 hw1 hw2 hw3
    go_wp2
    go_ret
    exact ⟨rfl, more_same _ _⟩
set_option maxHeartbeats 1000000 in
theorem BkC.turn (h : BkC w bb g d pl us ls fr es S ks KA KC) (l : ALnk pl us ls fr es) (kind r : Int) (hr0 : 0 ≤ r) (hr1 : r < 4294967296) :
    Calls Try.prog 31 #[.pointer (some ⟨bb, 0, none⟩), .int .i64 kind, .int .u32 r] w fun e w' => e = .returned (.bool true) ∧
      ∃ (us' : Int) (ls' : List Pl) (fr' : List Int) (es' : List Pe) (S' : Nat → Prop), BkC w' bb g d pl us' ls' fr' es' S' ks KA KC ∧ ALnk pl us' ls' fr' es' ∧ Stp S w w' S' := by
  have b0 := h.blk.cell 0
  have b1 := h.blk.cell 1
  have hbb := h.blk.lt
  have hbS := h.bap
  simp at b0 b1
  have H := Lib.hid h
  by_cases hk : kind = 5
  · subst hk
    obtain ⟨e, us', ls', fr', es', l', hu, hv⟩ := up_duo (g := g) (d := d) l r hr0 hr1
    have HU := Lib.hid hu
    have HV := Lib.hid hv
    clear h hu hv
    go_enter Try.func31, Try.ntmps31
    go_wp2_with (fail)
    refine wp_phS S [([0, 1, 2, 3, 4, 6, 7, 8, 9, 10], 5), ([], 11), ([12], 13)] (by kernel_rfl) (by kernel_rfl) ?_
    simp only [wpPh, pick, List.map_cons, List.map_nil, List.getD_cons_zero, List.getD_cons_succ]
    repeat (any_goals (first | go_big_quiet_step (fail) | quiet_step (fail)))
    refine wpQuiet_nil ?_
    refine effStep_plain rfl fun K hK => ?_
    go_simp
    refine (HU.out _ S (H.out.du.same ((Frm.refl _ _).drew))).mono ?_
    rintro x w1 ⟨rfl, S1, hd1, hs1⟩
    have hs1' : Stp S w w1 S1 := (Stp.of_same ((Frm.refl _ _).drew)).trans hs1
    have HD1 := Lib.hid hd1
    have HS1 := Lib.hid hs1'
    refine hK _ _ (Lat.mk_ hs1'.frm) ?_
    clear hK K hd1 hs1 hs1'
    refine wpQuiet_nil ?_
    refine effStep_plain rfl fun K hK => ?_
    go_simp
    refine (HV.out _ S1 HD1.out).mono ?_
    rintro x w2 ⟨rfl, S2, hd2, hs2⟩
    have hs2' : Stp S w w2 S2 := HS1.out.trans hs2
    have HD2 := Lib.hid hd2
    have HS2 := Lib.hid hs2'
    refine hK _ _ (Lat.mk_ hs2'.frm) ?_
    clear hK K hd2 hs2 hs2'
    repeat (any_goals (first | go_big_quiet_step (fail) | quiet_step (fail)))
    refine wpQuiet_nil ?_
    go_wp2
    go_ret
    exact ⟨by simp, us', ls', fr', es', S2, H.out.step HD2.out HS2.out, l', HS2.out⟩
  · have hk' : (kind == 5) = false := by simpa using hk
    obtain ⟨e, us', ls', fr', es', l', hu, hv⟩ := down_duo (g := g) (d := d) l r hr0 hr1
    have HU := Lib.hid hu
    have HV := Lib.hid hv
    clear h hu hv hk
    go_enter Try.func31, Try.ntmps31
    go_wp2_with (fail)
    refine wp_phS S [([0, 1, 2, 3, 4, 6, 7, 8, 9, 10], 5), ([], 11), ([12], 13)] (by kernel_rfl) (by kernel_rfl) ?_
    simp only [wpPh, pick, List.map_cons, List.map_nil, List.getD_cons_zero, List.getD_cons_succ]
    repeat (any_goals (first | go_big_quiet_step (fail) | quiet_step (fail)))
    refine wpQuiet_nil ?_
    refine effStep_plain rfl fun K hK => ?_
    go_simp
    refine (HU.out _ S (H.out.du.same ((Frm.refl _ _).drew))).mono ?_
    rintro x w1 ⟨rfl, S1, hd1, hs1⟩
    have hs1' : Stp S w w1 S1 := (Stp.of_same ((Frm.refl _ _).drew)).trans hs1
    have HD1 := Lib.hid hd1
    have HS1 := Lib.hid hs1'
    refine hK _ _ (Lat.mk_ hs1'.frm) ?_
    clear hK K hd1 hs1 hs1'
    refine wpQuiet_nil ?_
    refine effStep_plain rfl fun K hK => ?_
    go_simp
    refine (HV.out _ S1 HD1.out).mono ?_
    rintro x w2 ⟨rfl, S2, hd2, hs2⟩
    have hs2' : Stp S w w2 S2 := HS1.out.trans hs2
    have HD2 := Lib.hid hd2
    have HS2 := Lib.hid hs2'
    refine hK _ _ (Lat.mk_ hs2'.frm) ?_
    clear hK K hd2 hs2 hs2'
    repeat (any_goals (first | go_big_quiet_step (fail) | quiet_step (fail)))
    refine wpQuiet_nil ?_
    go_wp2
    go_ret
    exact ⟨by simp, us', ls', fr', es', S2, H.out.step HD2.out HS2.out, l', HS2.out⟩
end
end Go.Proofs.Ytkajgopkdolhcaa
