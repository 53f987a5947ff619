/- Contracts and plain laws, put together in one file. No condition. -/
import Derived.Test.YtlggmoghgoeiiaaJTruthKeeps5
import Derived.Test.YtlggmoghgoeiiaaRows


/- Truth tables: TruthKeeps: the walk. -/
namespace Go.Proofs.Ytlggmoghgoeiiaa
open Go.RowKit Go.Tk

/-- a list of new tables, their contents known -/
structure LN (w w' : World) (g C : Nat) (ts : List Tt) (cs : List Cn) : Prop where
  same : Same w w'
  own : Own w' 24 2 ttcell (some ⟨g, 0, none⟩) 11 C ts
  tl : TL w.heap.size w' ts cs
  ge : w.heap.size ≤ g
  nr : ∀ (i : Nat) (t : Tt), ts[i]? = some t → ¬ rowOf t.A g
theorem LN.next {w w' w2 : World} {g C : Nat} {ts : List Tt} {cs : List Cn} (h : LN w w' g C ts cs) (hs : Same w' w2) : LN w w2 g C ts cs :=
  ⟨h.same.trans hs (fun _ _ h => h), Own.frm h.own hs (fun _ _ => id), h.tl.same hs, h.ge, h.nr⟩
theorem LN.less {w0 w w' : World} {g C : Nat} {ts : List Tt} {cs : List Cn} (h : LN w w' g C ts cs) (hs : Same w0 w) : LN w0 w' g C ts cs :=
  ⟨hs.trans h.same (fun _ _ h => h), h.own, h.tl.less hs.size, Nat.le_trans hs.size h.ge, h.nr⟩
theorem RetTs.ln {w w' : World} {cs : List Cn} {e : Ending} (h : RetTs w 11 cs e w') : ∃ g C ts, e = .returned (.slice (some ⟨g, 0, none⟩) 11 C) ∧ LN w w' g C ts cs := by
  obtain ⟨g, C, ts, h1, h2, h3, h4, h5, h6⟩ := h
  exact ⟨g, C, ts, h1, h2, h3, h4, h5, h6⟩
theorem LN.nr2 {w w' : World} {g C : Nat} {ts : List Tt} {cs : List Cn} (h : LN w w' g C ts cs) : g < w'.heap.size := Own.row h.own g ⟨_, rfl, rfl⟩
/-- the same, but the old memory may have changed -/
structure LF (h0 : Nat) (w : World) (g C : Nat) (ts : List Tt) (cs : List Cn) : Prop where
  own : Own w 24 2 ttcell (some ⟨g, 0, none⟩) 11 C ts
  tl : TL h0 w ts cs
  ge : h0 ≤ g
theorem LN.lf {w w' : World} {g C : Nat} {ts : List Tt} {cs : List Cn} (h : LN w w' g C ts cs) : LF w.heap.size w' g C ts cs := ⟨h.own, h.tl, h.ge⟩
theorem LF.next {h0 : Nat} {w w' : World} {g C : Nat} {ts : List Tt} {cs : List Cn} (h : LF h0 w g C ts cs) (hs : Same w w') : LF h0 w' g C ts cs := ⟨Own.frm h.own hs (fun _ _ => id), h.tl.same hs, h.ge⟩
theorem LF.less {h0 h1 : Nat} {w : World} {g C : Nat} {ts : List Tt} {cs : List Cn} (h : LF h0 w g C ts cs) (hl : h1 ≤ h0) : LF h1 w g C ts cs := ⟨h.own, h.tl.less hl, Nat.le_trans hl h.ge⟩
theorem LF.turn {h0 g1 : Nat} {w w' : World} {g C : Nat} {ts : List Tt} {cs : List Cn} (h : LF h0 w g C ts cs) (hs : Frm (fun b => b = g1) w w') (hg : g1 < h0) : LF h0 w' g C ts cs :=
  ⟨frm_own h.own hs (fun b hb he => by have := rw_some.1 hb; have := h.ge; omega), h.tl.frm hs (fun i t hi b hb he => by have := h.tl.fresh i t hi b hb; omega), h.ge⟩
def tr (t : Tt) : Rw := ⟨t.A, t.n, t.C⟩
/-- rows of words between two marks of the memory -/
structure RW (lo hi : Nat) (w : World) (rs : List Rw) : Prop where
  own : ∀ (i : Nat) (r : Rw), rs[i]? = some r → ∃ xs, OwnW w r.A r.N r.C xs
  sz : ∀ (i : Nat) (r : Rw), rs[i]? = some r → r.N * 8 ≤ 140737488354000
  dis : ∀ (i j : Nat) (r s : Rw), rs[i]? = some r → rs[j]? = some s → i ≠ j → ∀ b, rowOf r.A b → ¬ rowOf s.A b
  rng : ∀ (i : Nat) (r : Rw), rs[i]? = some r → ∀ b, rowOf r.A b → lo ≤ b ∧ b < hi
theorem RW.one {lo hi g N C : Nat} {w : World} {xs : List Nat} (h : OwnW w (some ⟨g, 0, none⟩) N C xs) (hN : N * 8 ≤ 140737488354000) (h1 : lo ≤ g) (h2 : g < hi) : RW lo hi w [⟨some ⟨g, 0, none⟩, N, C⟩] := by
  have key : ∀ (i : Nat) (r : Rw), [(⟨some ⟨g, 0, none⟩, N, C⟩ : Rw)][i]? = some r → i = 0 ∧ r = ⟨some ⟨g, 0, none⟩, N, C⟩ := fun i r hi => by
    cases i with
    | zero => simp at hi; exact ⟨rfl, hi.symm⟩
    | succ i => simp at hi
  refine ⟨fun i r hi => ?_, fun i r hi => ?_, fun i j r s hi hj hne => ?_, fun i r hi b hb => ?_⟩
  · obtain ⟨_, rfl⟩ := key i r hi; exact ⟨xs, h⟩
  · obtain ⟨_, rfl⟩ := key i r hi; exact hN
  · have := (key i r hi).1; have := (key j s hj).1; omega
  · obtain ⟨_, rfl⟩ := key i r hi
    have := rw_some.1 hb
    omega
theorem RW.append {lo m m2 hi : Nat} {w : World} {rs ss : List Rw} (h : RW lo m w rs) (h2 : RW m2 hi w ss) (hm : m ≤ m2) (h0 : lo ≤ m2) (h3 : m ≤ hi) : RW lo hi w (rs ++ ss) := by
  have key : ∀ (i : Nat) (r : Rw), (rs ++ ss)[i]? = some r → (i < rs.length ∧ rs[i]? = some r) ∨ (rs.length ≤ i ∧ ss[i - rs.length]? = some r) := fun i r hi => by
    rcases Nat.lt_or_ge i rs.length with hl | hl
    · rw [List.getElem?_append_left hl] at hi; exact .inl ⟨hl, hi⟩
    · rw [List.getElem?_append_right hl] at hi; exact .inr ⟨hl, hi⟩
  refine ⟨fun i r hi => ?_, fun i r hi => ?_, fun i j r s hi hj hne b hb hr => ?_, fun i r hi b hb => ?_⟩
  · rcases key i r hi with ⟨_, a⟩ | ⟨_, a⟩
    · exact h.own i r a
    · exact h2.own _ r a
  · rcases key i r hi with ⟨_, a⟩ | ⟨_, a⟩
    · exact h.sz i r a
    · exact h2.sz _ r a
  · rcases key i r hi with ⟨_, a⟩ | ⟨l1, a⟩
    · rcases key j s hj with ⟨_, c⟩ | ⟨_, c⟩
      · exact h.dis i j r s a c hne b hb hr
      · have := h.rng i r a b hb; have := h2.rng _ s c b hr; omega
    · rcases key j s hj with ⟨_, c⟩ | ⟨l2, c⟩
      · have := h2.rng _ r a b hb; have := h.rng j s c b hr; omega
      · exact h2.dis _ _ r s a c (by omega) b hb hr
  · rcases key i r hi with ⟨_, a⟩ | ⟨_, a⟩
    · have := h.rng i r a b hb; omega
    · have := h2.rng _ r a b hb; omega
theorem TL.rw {lo hi : Nat} {w : World} {ts : List Tt} {cs : List Cn} (h : TL lo w ts cs) (hc : ∀ (i : Nat) (c : Cn), cs[i]? = some c → c.2.length ≤ 1024) (hr : ∀ (i : Nat) (t : Tt), ts[i]? = some t → ∀ b, rowOf t.A b → b < hi) : RW lo hi w (ts.map tr) := by
  have key : ∀ (i : Nat) (r : Rw), (ts.map tr)[i]? = some r → ∃ t, ts[i]? = some t ∧ r = tr t := fun i r hi => by
    rw [List.getElem?_map] at hi
    obtain ⟨t, h1, h2⟩ := Option.map_eq_some_iff.1 hi
    exact ⟨t, h1, h2.symm⟩
  refine ⟨fun i r hi => ?_, fun i r hi => ?_, fun i j r s hi hj hne => ?_, fun i r hi b hb => ?_⟩
  · obtain ⟨t, ht, rfl⟩ := key i r hi
    obtain ⟨c, _, _, ho⟩ := h.own i t ht
    exact ⟨c.2, ho⟩
  · obtain ⟨t, ht, rfl⟩ := key i r hi
    obtain ⟨c, h1, _, ho⟩ := h.own i t ht
    have := hc i c h1
    have h3 : t.n = c.2.length := ho.len
    show t.n * 8 ≤ _
    omega
  · obtain ⟨t, ht, rfl⟩ := key i r hi
    obtain ⟨t2, ht2, rfl⟩ := key j s hj
    exact h.dis i j t t2 ht ht2 hne
  · obtain ⟨t, ht, rfl⟩ := key i r hi
    exact ⟨h.fresh i t ht b hb, hr i t ht b hb⟩
theorem RW.frm {lo hi : Nat} {w w' : World} {S : Nat → Prop} {rs : List Rw} (h : RW lo hi w rs) (hf : Frm S w w') (hn : ∀ b, S b → hi ≤ b) : RW lo hi w' rs :=
  ⟨fun i r hi => by obtain ⟨xs, ho⟩ := h.own i r hi; exact ⟨xs, frm_own ho hf (fun b hb hs => by have := h.rng i r hi b hb; have := hn b hs; omega)⟩, h.sz, h.dis, h.rng⟩
/-- the growing list of rows -/
structure KL (w wi : World) (GL LA LC k : Nat) (rs : List Rw) : Prop where
  frm : Frm (fun b => b = GL) w wi
  own : OwnR wi (some ⟨LA, 0, none⟩) k LC rs
  at_ : LA = GL ∨ w.heap.size ≤ LA
theorem KL.step {w wi wa wb : World} {GL LA LC k x C' : Nat} {rs : List Rw} {r : Rw} (h : KL w wi GL LA LC k rs) (hs : Same wi wa) (hg : wa.grownBy wb (Value.slice (some ⟨LA, 0, none⟩) k LC).ownBlock) (ho : OwnR wb (some ⟨x, 0, none⟩) (k + 1) C' (rs ++ [r]))
    (hat : ((some ⟨LA, 0, none⟩ : Option Addr) = some ⟨x, 0, none⟩ ∧ C' = LC) ∨ (x = wa.heap.size ∧ wa.grownBy wb none)) : KL w wb GL x C' (k + 1) (rs ++ [r]) := by
  refine ⟨(h.frm.trans hs (fun _ _ h => h.elim)).grown hg (fun g hg => ?_), ho, ?_⟩
  · obtain rfl := rw_some.1 (rw_own hg)
    exact h.at_
  · rcases hat with ⟨h1, _⟩ | ⟨h1, _⟩
    · injection h1 with h1
      injection h1 with h1
      subst h1
      exact h.at_
    · have := h.frm.size
      have := hs.size
      exact .inr (by omega)
def xw (xs : List Nat) (i : Nat) : List Nat := (xs.map (· ^^^ 1)).take i ++ xs.drop i
theorem xw_zero (xs : List Nat) : xw xs 0 = xs := by simp [xw]
theorem xw_all (xs : List Nat) : xw xs xs.length = xs.map (· ^^^ 1) := by simp [xw, List.take_of_length_le]
theorem xw_len (xs : List Nat) {i : Nat} (hi : i ≤ xs.length) : (xw xs i).length = xs.length := by simp [xw]; omega
theorem xw_get (xs zs : List Nat) {i x : Nat} (hx : xs[i]? = some x) : (xw xs i ++ zs)[i]? = some x := by
  have hi := lt_of_get hx
  rw [List.getElem?_append_left (by rw [xw_len xs (by omega)]; exact hi)]
  unfold xw
  rw [List.getElem?_append_right (by simp; omega)]
  simp [List.length_take, Nat.min_eq_left (Nat.le_of_lt hi), hx]
theorem xw_set (xs zs : List Nat) {i x : Nat} (hx : xs[i]? = some x) : (xw xs i ++ zs).set i (x ^^^ 1) = xw xs (i + 1) ++ zs := by
  have hi := lt_of_get hx
  have hl : ((xs.map (· ^^^ 1)).take i).length = i := by simp; omega
  rw [List.set_append_left _ _ (by rw [xw_len xs (by omega)]; exact hi)]
  congr 1
  unfold xw
  rw [List.set_append_right _ _ (by omega), hl, Nat.sub_self, List.drop_eq_getElem_cons hi, List.set_cons_zero, List.take_add_one, List.getElem?_map, hx]
  simp
theorem xw_small {xs : List Nat} (h : Small xs) : Small (xs.map (· ^^^ 1)) := fun x hx => by
  obtain ⟨y, hy, rfl⟩ := List.mem_map.1 hx
  exact Nat.xor_lt_two_pow (n := 64) (h y hy) (by decide)
set_option maxRecDepth 100000 in
set_option maxHeartbeats 16000000 in
theorem keeps_walk (Na : Int) (Aa : Option Addr) (Ca : Nat) (wsa : List Nat) (Nb : Int) (Ab : Option Addr) (Cb : Nat) (wsb : List Nat) (v : Int) (Ap : Option Addr) (Lp Cp : Nat) (p : List Int) (w : World) (ha : TbIn w ⟨Na, Aa, Ca, wsa⟩) (hb : TbIn w ⟨Nb, Ab, Cb, wsb⟩) (hp : IL w Ap Lp p) (hr : Lp * 8 ≤ 140737488351232) :
    Calls Try.prog 12 #[.agg #[.int .i64 Na, .slice Aa wsa.length Ca], .agg #[.int .i64 Nb, .slice Ab wsb.length Cb], .int .i64 v, .slice Ap Lp Cp] w fun e w' => e = .returned (.bool true) ∧ Below w.heap.size w w' := by
  obtain rfl := hp.len
  have Ha := Lib.hid ha
  have Hb := Lib.hid hb
  have hra : wsa.length * 8 ≤ 140737488351232 := ha.room
  have hrb : wsb.length * 8 ≤ 140737488351232 := hb.room
  have HI := Lib.hid hp
  clear ha hb hp
  go_enter Try.func12, Try.ntmps12
  go_upto_region 1 with fail
  refine wp_world fun w1 hw1 => ?_
  have hs1 : Same w w1 := by rw [hw1]; exact ((Frm.refl _ _).alloc _).alloc _
  have hBX : Blk w1 (w.heap.size) 24 #[.int .i64 Na, .slice Aa wsa.length Ca] := by
    rw [hw1]
    have := ((Blk.new w 24 #[.int .i64 Na, .slice Aa wsa.length Ca]).alloc (.cells #[.int .i64 Nb, .slice Ab wsb.length Cb] 24))
    simpa using this
  have hBY : Blk w1 (w.heap.size + 1) 24 #[.int .i64 Nb, .slice Ab wsb.length Cb] := by
    rw [hw1]
    have := (Blk.new (w.alloc (.cells #[.int .i64 Na, .slice Aa wsa.length Ca] 24)) 24 #[.int .i64 Nb, .slice Ab wsb.length Cb])
    simpa using this
  clear hw1
  have hoY : w.heap.size < w.heap.size + 1 := Nat.lt_succ_self _
  obtain ⟨Y, hY⟩ : ∃ b, w.heap.size + 1 = b := ⟨_, rfl⟩
  rw [hY] at hBY hoY ⊢
  obtain ⟨X, hX⟩ : ∃ b, w.heap.size = b := ⟨_, rfl⟩
  have hoX : w.heap.size ≤ X := Nat.le_of_eq hX
  rw [hX] at hBX hoY ⊢
  clear hX hY
  have HS := Lib.hid hs1
  have HBX := Lib.hid hBX
  have HBY := Lib.hid hBY
  clear hs1 hBX hBY
  go_wp2_with (fail)
  refine (awake_any w1).mono ?_
  rintro e w2 ⟨rfl, hs⟩
  replace HBX := Lib.hid (HBX.out.frm hs id)
  replace HBY := Lib.hid (HBY.out.frm hs id)
  replace HS := Lib.hid (HS.out.trans hs (fun _ _ h => h))
  clear hs
  have ca0 : w2.cell? ⟨X, 0, none⟩ = some (.int .i64 Na) := HBX.out.cell 0
  have ca1 : w2.cell? ⟨X, 1, none⟩ = some (.slice Aa wsa.length Ca) := HBX.out.cell 1
  have la := HBX.out.lt
  go_wp2_with (fail)
  refine (spare_any Na Aa Ca wsa w2 (Sl.same Ha.out.ok.wl HS.out) hra).mono ?_
  rintro e w3 ⟨g1, C1, rfl, ho, hg1, hs⟩
  clear ca0 ca1 la
  go_upto_region 4 with fail
  refine wp_world fun w4 hw => ?_
  have hs4 : Same w3 w4 := by rw [hw]; exact (Frm.refl _ _).alloc _
  have hsw := hs.trans hs4 (fun _ _ h => h)
  have hBXX : Blk w4 w3.heap.size 24 #[.int .i64 Na, .slice (some ⟨g1, 0, none⟩) wsa.length C1] := by rw [hw]; exact Blk.new _ _ _
  have HO1 := Lib.hid (Own.frm ho hs4 (fun _ _ => id))
  have ho1 : Y < g1 := Nat.lt_of_lt_of_le HBY.out.lt hg1
  have ho2 : g1 < w3.heap.size := Own.row ho g1 ⟨_, rfl, rfl⟩
  replace HBX := Lib.hid (HBX.out.frm hsw id)
  replace HBY := Lib.hid (HBY.out.frm hsw id)
  replace HS := Lib.hid (HS.out.trans hsw (fun _ _ h => h))
  obtain ⟨XX, hXX⟩ : ∃ b, w3.heap.size = b := ⟨_, rfl⟩
  rw [hXX] at hBXX ho2 ⊢
  have HBXX := Lib.hid hBXX
  clear hw hs hs4 hsw hBXX ho hg1 hXX
  have cb0 : w4.cell? ⟨Y, 0, none⟩ = some (.int .i64 Nb) := HBY.out.cell 0
  have cb1 : w4.cell? ⟨Y, 1, none⟩ = some (.slice Ab wsb.length Cb) := HBY.out.cell 1
  have lb := HBY.out.lt
  go_wp2_with (fail)
  refine (spare_any Nb Ab Cb wsb w4 (Sl.same Hb.out.ok.wl HS.out) hrb).mono ?_
  rintro e w5 ⟨g2, C2, rfl, ho, hg2, hs⟩
  clear cb0 cb1 lb
  go_upto_region 5 with fail
  refine wp_world fun w6 hw => ?_
  have hs4 : Same w5 w6 := by rw [hw]; exact (Frm.refl _ _).alloc _
  have hsw := hs.trans hs4 (fun _ _ h => h)
  have hBYY : Blk w6 w5.heap.size 24 #[.int .i64 Nb, .slice (some ⟨g2, 0, none⟩) wsb.length C2] := by rw [hw]; exact Blk.new _ _ _
  have HO2 := Lib.hid (Own.frm ho hs4 (fun _ _ => id))
  have ho3 : XX < g2 := Nat.lt_of_lt_of_le HBXX.out.lt hg2
  have ho4 : g2 < w5.heap.size := Own.row ho g2 ⟨_, rfl, rfl⟩
  replace HO1 := Lib.hid (Own.frm HO1.out hsw (fun _ _ => id))
  replace HBX := Lib.hid (HBX.out.frm hsw id)
  replace HBY := Lib.hid (HBY.out.frm hsw id)
  replace HBXX := Lib.hid (HBXX.out.frm hsw id)
  replace HS := Lib.hid (HS.out.trans hsw (fun _ _ h => h))
  obtain ⟨YY, hYY⟩ : ∃ b, w5.heap.size = b := ⟨_, rfl⟩
  rw [hYY] at hBYY ho4 ⊢
  have HBYY := Lib.hid hBYY
  clear hw hs hs4 hsw hBYY ho hg2 hYY
  refine wp_region_lit ?_
  refine wpList_plain rfl fun K hK => ?_
  go_simp
  refine hK _ _ ?_
  clear hK K
  refine list_world fun wa hwa => ?_
  have hsa : Same w6 wa := by rw [hwa]; exact (Frm.refl _ _).alloc _
  have hO := Own.lit w6 3 icell (fun _ => rfl) [] (by simp) (cs := #[]) rfl
  rw [← hwa] at hO
  clear hwa
  have hF0 : Fresh w6.heap.size (some ⟨w6.heap.size, 0, none⟩) := fresh_some (Nat.le_refl _)
  refine wpList_read 1 ?_
  simp only [List.take_succ_cons, List.take_zero, List.drop_succ_cons, List.drop_zero]
  repeat (any_goals (first | go_big_quiet_step (fail) | quiet_step (fail)))
  refine wpQuiet_nil ?_
  refine wpList_plain rfl fun K hK => ?_
  refine Own.append_many (.tmp 38) (.tmp 39) _ rfl Try.underlying59 info_int rfl (by omega) rfl hO (fun _ => rfl) p Ap Cp rfl (fun hne => il_src (Sl.same HI.out (HS.out.trans hsa (fun _ _ h => h))) hne) (by simp [icell, Value.oneCell']) (by simp [maxLen]; omega) (by simp; omega) ?_
  intro Aq Cq wb hOq hg1 hat1
  refine hK _ _ ?_
  clear hK K
  simp only [List.nil_append] at hOq ⊢
  have hsb : Same w6 wb := hsa.grown hg1 (fun g hg => .inr (hF0 g (ownBlock_row.1 hg)))
  have hFq : Fresh w6.heap.size Aq := fun b hb => by
    rcases hat1 b hb with h | h
    · exact hF0 b h
    · have := hsa.size; omega
  clear hg1 hat1 hF0 hO hsa
  refine wpList_plain rfl fun K hK => ?_
  go_simp
  refine hK _ _ ?_
  clear hK K
  refine list_world fun wc hwc => ?_
  have hsc : Same wb wc := by rw [hwc]; exact (Frm.refl _ _).alloc _
  have hN := Blk.new wb 3 #[.int .i64 91, .int .i64 92]
  rw [← hwc] at hN
  clear hwc
  refine wpList_plain rfl fun K hK => ?_
  refine Own.grow (f := icell) (.tmp 40) (.tmp 41) _ rfl Try.underlying59 info_int rfl rfl (Own.frm hOq hsc (fun _ _ => id)) (fun _ => rfl) [91, 92] (by decide) ⟨wb.heap.size, 0, none⟩ 2 rfl (fun j u hj => news_of_blk hN j u (by rw [i_flat] at hj; exact hj)) (by simp [icell, Value.oneCell']) (by simp [maxLen]; omega) (by simp; omega) ?_
  intro g3 C3 wd hOd _ hg1 hat
  refine hK _ _ ?_
  clear hK K
  have hsd : Same w6 wd := (hsb.trans hsc (fun _ _ h => h)).grown hg1 (fun g hg => .inr (hFq g (ownBlock_row.1 hg)))
  have ho5 : YY < g3 := by
    have h0 := HBYY.out.lt
    rcases hat with ⟨h, _⟩ | ⟨h, _⟩
    · have := hFq g3 ⟨_, h, rfl⟩; omega
    · have h2 := hsb.size; have h3 := hsc.size; omega
  clear hg1 hat hN hOq hFq hsb hsc
  have HO3 := Lib.hid hOd
  have hC3 : p.length + 2 ≤ C3 := Own.cap hOd
  have hCp : p.length ≤ C3 := by omega
  replace HO1 := Lib.hid (Own.frm HO1.out hsd (fun _ _ => id))
  replace HO2 := Lib.hid (Own.frm HO2.out hsd (fun _ _ => id))
  replace HBX := Lib.hid (HBX.out.frm hsd id)
  replace HBY := Lib.hid (HBY.out.frm hsd id)
  replace HBXX := Lib.hid (HBXX.out.frm hsd id)
  replace HBYY := Lib.hid (HBYY.out.frm hsd id)
  replace HS := Lib.hid (HS.out.trans hsd (fun _ _ h => h))
  clear hsd hOd
  simp only [List.length_cons, List.length_nil, Nat.zero_add, Nat.reduceAdd] at HO3 ⊢
  have hga3 : g3 < wd.heap.size := Own.row HO3.out g3 ⟨_, rfl, rfl⟩
  go_upto_region 7 with fail
  obtain ⟨u, rfl⟩ : ∃ z, z = wd := ⟨_, rfl⟩
  have HW1 := Lib.hid (Own.sl ucell_len (Own.front (xs := wsa) (ys := [71, 72, 73]) ucell_len HO1.out))
  have HW2 := Lib.hid (Own.sl ucell_len (Own.front (xs := wsb) (ys := [71, 72, 73]) ucell_len HO2.out))
  have HP3 := Lib.hid (Own.il (Own.front (xs := p) (ys := [91, 92]) icell_len HO3.out))
  have hlp : p.length ≤ 1000000000000000000 := by omega
  obtain ⟨cs, hcs⟩ : ∃ cs, cs = ansC Na wsa Nb wsb v p := ⟨_, rfl⟩
  have HCS := Lib.hid hcs
  have HCL := Lib.hid (show ∀ (i : Nat) (c : Cn), cs[i]? = some c → c.2.length ≤ 1024 by rw [hcs]; exact ansC_len Na wsa Nb wsb v p)
  have HANS := Lib.hid (show ∀ A C A2 C2 A3 C3 w', WL w' A wsa.length wsa → WL w' A2 wsb.length wsb → IL w' A3 p.length p → Calls Try.prog 46 #[.agg #[.int .i64 Na, .slice A wsa.length C], .agg #[.int .i64 Nb, .slice A2 wsb.length C2], .int .i64 v, .slice A3 p.length C3] w' (RetTs w' 11 cs) from fun A C A2 C2 A3 C3 w' h1 h2 h3 => by rw [hcs]; exact answers_any Na A C wsa Nb A2 C2 wsb v A3 p.length C3 p w' ⟨h1, Ha.out.ok.small⟩ ⟨h2, Hb.out.ok.small⟩ h3 hlp)
  clear hcs
  go_cut [15] (fun s15 wx => ∃ (gW CW : Nat) (tsW : List Tt), s15 = .slice (some ⟨gW, 0, none⟩) 11 CW ∧ LN u wx gW CW tsW cs)
  case first =>
    have ca0 : u.cell? ⟨X, 0, none⟩ = some (.int .i64 Na) := HBX.out.cell 0
    have ca1 : u.cell? ⟨X, 1, none⟩ = some (.slice Aa wsa.length Ca) := HBX.out.cell 1
    have la := HBX.out.lt
    have cb0 : u.cell? ⟨Y, 0, none⟩ = some (.int .i64 Nb) := HBY.out.cell 0
    have cb1 : u.cell? ⟨Y, 1, none⟩ = some (.slice Ab wsb.length Cb) := HBY.out.cell 1
    have lb := HBY.out.lt
    refine wp_fS (fun _ => False) (.q [0, 2, 4, 6] (.br 1 (.br 3 (.br 5 (.br 7 (.br 8 (.last 9) .stop) .stop) .stop) (.br 5 (.br 3 (.br 7 (.br 8 (.last 9) .stop) .stop) .stop) .stop)) (.br 5 (.br 1 (.br 3 (.br 7 (.br 8 (.last 9) .stop) .stop) .stop) .stop) .stop))) (by kernel_rfl) (by kernel_rfl) ?_
    simp only [wpF, pick, List.map_cons, List.map_nil, List.getD_cons_zero, List.getD_cons_succ]
    obtain ⟨ud, hud⟩ : ∃ z, z = u.drew := ⟨_, rfl⟩
    have hqd : Same u ud := by rw [hud]; exact (Frm.refl _ _).drew
    rw [← hud]
    clear hud
    repeat (any_goals (first | go_big_quiet_step (fail) | quiet_step (fail)))
    refine wpQuiet_nil ?_
    refine ⟨?_, ?_⟩
    · refine effStep_plain rfl fun K hK => ?_
      go_simp
      refine (rtwin_any Na Aa Ca wsa (ud) (Sl.same Ha.out.ok.wl (HS.out.trans hqd (fun _ _ h => h))) hra).mono ?_
      rintro e z0 ⟨Ta, Da, rfl, hN⟩
      have hsz0 : Same u z0 := hqd.trans hN.2.2 (fun _ _ h => h)
      have hoa := hN.1
      clear hN
      refine hK _ _ (Lat.mk_ hsz0) ?_
      clear hK K
      refine ⟨?_, ?_⟩
      · refine effStep_plain rfl fun K hK => ?_
        go_simp
        refine (rtwin_any Nb Ab Cb wsb (z0) (Sl.same Hb.out.ok.wl (HS.out.trans hsz0 (fun _ _ h => h))) hrb).mono ?_
        rintro e z1 ⟨Tb, Db, rfl, hN⟩
        have hsz1 : Same u z1 := hsz0.trans hN.2.2 (fun _ _ h => h)
        have hob := hN.1
        replace hoa := Own.frm hoa hN.2.2 (fun _ _ => id)
        clear hN
        refine hK _ _ (Lat.mk_ hsz1) ?_
        clear hK K
        refine effStep_plain rfl fun K hK => ?_
        go_simp
        refine hK _ _ (Lat.mk_ (Frm.alloc hsz1 _)) ?_
        clear hK K
        have hO := Own.lit (z1) 3 icell (fun _ => rfl) [] (by simp) (cs := #[]) rfl
        obtain ⟨z2, hz⟩ : ∃ z, z = World.alloc (z1) (.cells #[] 3) := ⟨_, rfl⟩
        rw [← hz] at hO ⊢
        have hsl : Same (z1) z2 := by rw [hz]; exact (Frm.refl _ _).alloc _
        have hL : (z1).heap.size < z2.heap.size := by rw [hz]; simp
        have hLu : u.heap.size ≤ (z1).heap.size := hsz1.size
        have hsz2 : Same u z2 := hsz1.trans hsl (fun _ _ h => h)
        have hga : ∀ x, rowOf Ta x → x ≠ (z1).heap.size := fun x hx h => by have := Own.row hoa x hx; omega
        replace hoa := Own.frm hoa hsl (fun _ _ => id)
        have hgb : ∀ x, rowOf Tb x → x ≠ (z1).heap.size := fun x hx h => by have := Own.row hob x hx; omega
        replace hob := Own.frm hob hsl (fun _ _ => id)
        obtain ⟨L0, hL0⟩ : ∃ z, z = (z1).heap.size := ⟨_, rfl⟩
        rw [← hL0] at hO hL hLu hga hgb ⊢
        clear hL0 hsl hz
        refine effStep_plain rfl fun K hK => ?_
        refine Own.append_many (.tmp 52) (.tmp 53) _ rfl Try.underlying59 info_int rfl (by omega) rfl hO (fun _ => rfl) p Ap Cp rfl (fun hne => il_src (Sl.same HI.out (HS.out.trans hsz2 (fun _ _ h => h))) hne) (by simp [icell, Value.oneCell']) (by simp [maxLen]; omega) (by simp; omega) ?_
        intro Aq Cq wq hOq hg1 hat1
        have hsq : Same u wq := hsz2.grown hg1 (fun g hg => .inr (by have h := rw_some.1 (rw_own hg); omega))
        replace hoa := Own.keptBy hoa hg1 (fun b hb hr => hga b hr (rw_some.1 (rw_own hb)))
        replace hob := Own.keptBy hob hg1 (fun b hb hr => hgb b hr (rw_some.1 (rw_own hb)))
        refine hK _ _ (Lat.mk_ hsq) ?_
        clear hK K
        simp only [List.nil_append] at hOq ⊢
        clear hg1 hat1 hga hgb hO hL hLu
        refine effStep_plain rfl fun K hK => ?_
        go_simp
        refine (HANS.out Ta Da Tb Db Aq Cq wq (hoa.sl ucell_len) (hob.sl ucell_len) (Own.il hOq)).mono ?_
        intro e wz hz
        obtain ⟨gW, CW, tsW, rfl, hln⟩ := hz.ln
        refine hK _ _ (Lat.mk_ (hsq.trans hln.same (fun _ _ h => h))) ?_
        clear hK K
        go_wp2_with fail
        go_meet
        exact ⟨gW, CW, tsW, rfl, hln.less hsq⟩
      · refine effStep_plain rfl fun K hK => ?_
        go_simp
        refine hK _ _ (Lat.mk_ (Frm.alloc hsz0 _)) ?_
        clear hK K
        have hO := Own.lit (z0) 3 icell (fun _ => rfl) [] (by simp) (cs := #[]) rfl
        obtain ⟨z1, hz⟩ : ∃ z, z = World.alloc (z0) (.cells #[] 3) := ⟨_, rfl⟩
        rw [← hz] at hO ⊢
        have hsl : Same (z0) z1 := by rw [hz]; exact (Frm.refl _ _).alloc _
        have hL : (z0).heap.size < z1.heap.size := by rw [hz]; simp
        have hLu : u.heap.size ≤ (z0).heap.size := hsz0.size
        have hsz1 : Same u z1 := hsz0.trans hsl (fun _ _ h => h)
        have hga : ∀ x, rowOf Ta x → x ≠ (z0).heap.size := fun x hx h => by have := Own.row hoa x hx; omega
        replace hoa := Own.frm hoa hsl (fun _ _ => id)
        obtain ⟨L0, hL0⟩ : ∃ z, z = (z0).heap.size := ⟨_, rfl⟩
        rw [← hL0] at hO hL hLu hga ⊢
        clear hL0 hsl hz
        refine effStep_plain rfl fun K hK => ?_
        go_simp
        refine (rtwin_any Nb Ab Cb wsb (z1) (Sl.same Hb.out.ok.wl (HS.out.trans hsz1 (fun _ _ h => h))) hrb).mono ?_
        rintro e z2 ⟨Tb, Db, rfl, hN⟩
        have hsz2 : Same u z2 := hsz1.trans hN.2.2 (fun _ _ h => h)
        have hob := hN.1
        have hgb : ∀ x, rowOf Tb x → x ≠ L0 := fun x hx h => by have := hN.2.1 x hx; omega
        replace hO := Own.frm hO hN.2.2 (fun _ _ => id)
        replace hL : L0 < z2.heap.size := Nat.lt_of_lt_of_le hL hN.2.2.size
        replace hoa := Own.frm hoa hN.2.2 (fun _ _ => id)
        clear hN
        refine hK _ _ (Lat.mk_ hsz2) ?_
        clear hK K
        refine effStep_plain rfl fun K hK => ?_
        refine Own.append_many (.tmp 52) (.tmp 53) _ rfl Try.underlying59 info_int rfl (by omega) rfl hO (fun _ => rfl) p Ap Cp rfl (fun hne => il_src (Sl.same HI.out (HS.out.trans hsz2 (fun _ _ h => h))) hne) (by simp [icell, Value.oneCell']) (by simp [maxLen]; omega) (by simp; omega) ?_
        intro Aq Cq wq hOq hg1 hat1
        have hsq : Same u wq := hsz2.grown hg1 (fun g hg => .inr (by have h := rw_some.1 (rw_own hg); omega))
        replace hoa := Own.keptBy hoa hg1 (fun b hb hr => hga b hr (rw_some.1 (rw_own hb)))
        replace hob := Own.keptBy hob hg1 (fun b hb hr => hgb b hr (rw_some.1 (rw_own hb)))
        refine hK _ _ (Lat.mk_ hsq) ?_
        clear hK K
        simp only [List.nil_append] at hOq ⊢
        clear hg1 hat1 hga hgb hO hL hLu
        refine effStep_plain rfl fun K hK => ?_
        go_simp
        refine (HANS.out Ta Da Tb Db Aq Cq wq (hoa.sl ucell_len) (hob.sl ucell_len) (Own.il hOq)).mono ?_
        intro e wz hz
        obtain ⟨gW, CW, tsW, rfl, hln⟩ := hz.ln
        refine hK _ _ (Lat.mk_ (hsq.trans hln.same (fun _ _ h => h))) ?_
        clear hK K
        go_wp2_with fail
        go_meet
        exact ⟨gW, CW, tsW, rfl, hln.less hsq⟩
    · refine effStep_plain rfl fun K hK => ?_
      go_simp
      refine hK _ _ (Lat.mk_ (Frm.alloc hqd _)) ?_
      clear hK K
      have hO := Own.lit (ud) 3 icell (fun _ => rfl) [] (by simp) (cs := #[]) rfl
      obtain ⟨z0, hz⟩ : ∃ z, z = World.alloc (ud) (.cells #[] 3) := ⟨_, rfl⟩
      rw [← hz] at hO ⊢
      have hsl : Same (ud) z0 := by rw [hz]; exact (Frm.refl _ _).alloc _
      have hL : (ud).heap.size < z0.heap.size := by rw [hz]; simp
      have hLu : u.heap.size ≤ (ud).heap.size := hqd.size
      have hsz0 : Same u z0 := hqd.trans hsl (fun _ _ h => h)
      obtain ⟨L0, hL0⟩ : ∃ z, z = (ud).heap.size := ⟨_, rfl⟩
      rw [← hL0] at hO hL hLu ⊢
      clear hL0 hsl hz
      refine effStep_plain rfl fun K hK => ?_
      go_simp
      refine (rtwin_any Na Aa Ca wsa (z0) (Sl.same Ha.out.ok.wl (HS.out.trans hsz0 (fun _ _ h => h))) hra).mono ?_
      rintro e z1 ⟨Ta, Da, rfl, hN⟩
      have hsz1 : Same u z1 := hsz0.trans hN.2.2 (fun _ _ h => h)
      have hoa := hN.1
      have hga : ∀ x, rowOf Ta x → x ≠ L0 := fun x hx h => by have := hN.2.1 x hx; omega
      replace hO := Own.frm hO hN.2.2 (fun _ _ => id)
      replace hL : L0 < z1.heap.size := Nat.lt_of_lt_of_le hL hN.2.2.size
      clear hN
      refine hK _ _ (Lat.mk_ hsz1) ?_
      clear hK K
      refine effStep_plain rfl fun K hK => ?_
      go_simp
      refine (rtwin_any Nb Ab Cb wsb (z1) (Sl.same Hb.out.ok.wl (HS.out.trans hsz1 (fun _ _ h => h))) hrb).mono ?_
      rintro e z2 ⟨Tb, Db, rfl, hN⟩
      have hsz2 : Same u z2 := hsz1.trans hN.2.2 (fun _ _ h => h)
      have hob := hN.1
      have hgb : ∀ x, rowOf Tb x → x ≠ L0 := fun x hx h => by have := hN.2.1 x hx; omega
      replace hO := Own.frm hO hN.2.2 (fun _ _ => id)
      replace hL : L0 < z2.heap.size := Nat.lt_of_lt_of_le hL hN.2.2.size
      replace hoa := Own.frm hoa hN.2.2 (fun _ _ => id)
      clear hN
      refine hK _ _ (Lat.mk_ hsz2) ?_
      clear hK K
      refine effStep_plain rfl fun K hK => ?_
      refine Own.append_many (.tmp 52) (.tmp 53) _ rfl Try.underlying59 info_int rfl (by omega) rfl hO (fun _ => rfl) p Ap Cp rfl (fun hne => il_src (Sl.same HI.out (HS.out.trans hsz2 (fun _ _ h => h))) hne) (by simp [icell, Value.oneCell']) (by simp [maxLen]; omega) (by simp; omega) ?_
      intro Aq Cq wq hOq hg1 hat1
      have hsq : Same u wq := hsz2.grown hg1 (fun g hg => .inr (by have h := rw_some.1 (rw_own hg); omega))
      replace hoa := Own.keptBy hoa hg1 (fun b hb hr => hga b hr (rw_some.1 (rw_own hb)))
      replace hob := Own.keptBy hob hg1 (fun b hb hr => hgb b hr (rw_some.1 (rw_own hb)))
      refine hK _ _ (Lat.mk_ hsq) ?_
      clear hK K
      simp only [List.nil_append] at hOq ⊢
      clear hg1 hat1 hga hgb hO hL hLu
      refine effStep_plain rfl fun K hK => ?_
      go_simp
      refine (HANS.out Ta Da Tb Db Aq Cq wq (hoa.sl ucell_len) (hob.sl ucell_len) (Own.il hOq)).mono ?_
      intro e wz hz
      obtain ⟨gW, CW, tsW, rfl, hln⟩ := hz.ln
      refine hK _ _ (Lat.mk_ (hsq.trans hln.same (fun _ _ h => h))) ?_
      clear hK K
      go_wp2_with fail
      go_meet
      exact ⟨gW, CW, tsW, rfl, hln.less hsq⟩
  case rest =>
    obtain ⟨gW, CW, tsW, rfl, hln⟩ := hcut
    have HSU := Lib.hid hln.same
    have HLW := Lib.hid hln.lf
    have hou : g3 < u.heap.size := hga3
    clear hln
    obtain ⟨v0, rfl⟩ : ∃ z, z = wc := ⟨_, rfl⟩
    have hv0 : u.heap.size ≤ v0.heap.size := HSU.out.size
    have cx0 : v0.cell? ⟨XX, 0, none⟩ = some (.int .i64 Na) := (HBXX.out.frm HSU.out id).cell 0
    have cx1 : v0.cell? ⟨XX, 1, none⟩ = some (.slice (some ⟨g1, 0, none⟩) wsa.length C1) := (HBXX.out.frm HSU.out id).cell 1
    have lx := (HBXX.out.frm HSU.out id).lt
    have cy0 : v0.cell? ⟨YY, 0, none⟩ = some (.int .i64 Nb) := (HBYY.out.frm HSU.out id).cell 0
    have cy1 : v0.cell? ⟨YY, 1, none⟩ = some (.slice (some ⟨g2, 0, none⟩) wsb.length C2) := (HBYY.out.frm HSU.out id).cell 1
    have ly := (HBYY.out.frm HSU.out id).lt
    go_wp2_with (fail)
    refine (HANS.out (some ⟨g1, 0, none⟩) C1 (some ⟨g2, 0, none⟩) C2 (some ⟨g3, 0, none⟩) C3 v0 (Sl.same HW1.out HSU.out) (Sl.same HW2.out HSU.out) (Sl.same HP3.out HSU.out)).mono ?_
    intro e v1 hz
    obtain ⟨gO, CO, tsO, rfl, hln⟩ := hz.ln
    clear cx0 cx1 lx cy0 cy1 ly
    have HLO := Lib.hid hln.lf
    replace HLW := Lib.hid (HLW.out.next hln.same)
    replace HSU := Lib.hid (HSU.out.trans hln.same (fun _ _ h => h))
    clear hln hz
    have hv1 : u.heap.size ≤ v1.heap.size := HSU.out.size
    have HV := Lib.hid (Frm.refl (fun _ => False) v1)
    have HRO := Lib.hid (fun (i : Nat) (t : Tt) (hi : tsO[i]? = some t) => HLO.out.tl.row hi)
    have cx0 : v1.cell? ⟨XX, 0, none⟩ = some (.int .i64 Na) := (HBXX.out.frm HSU.out id).cell 0
    have cx1 : v1.cell? ⟨XX, 1, none⟩ = some (.slice (some ⟨g1, 0, none⟩) wsa.length C1) := (HBXX.out.frm HSU.out id).cell 1
    have lx := (HBXX.out.frm HSU.out id).lt
    have cy0 : v1.cell? ⟨YY, 0, none⟩ = some (.int .i64 Nb) := (HBYY.out.frm HSU.out id).cell 0
    have cy1 : v1.cell? ⟨YY, 1, none⟩ = some (.slice (some ⟨g2, 0, none⟩) wsb.length C2) := (HBYY.out.frm HSU.out id).cell 1
    have ly := (HBYY.out.frm HSU.out id).lt
    go_wp2_with (fail)
    refine (HANS.out (some ⟨g1, 0, none⟩) C1 (some ⟨g2, 0, none⟩) C2 (some ⟨g3, 0, none⟩) C3 v1 (Sl.same HW1.out HSU.out) (Sl.same HW2.out HSU.out) (Sl.same HP3.out HSU.out)).mono ?_
    intro e v2 hz
    obtain ⟨gT, CT, tsT, rfl, hln⟩ := hz.ln
    clear cx0 cx1 lx cy0 cy1 ly
    have HLT := Lib.hid hln.lf
    replace HLW := Lib.hid (HLW.out.next hln.same)
    replace HLO := Lib.hid (HLO.out.next hln.same)
    replace HSU := Lib.hid (HSU.out.trans hln.same (fun _ _ h => h))
    replace HV := Lib.hid (HV.out.trans hln.same (fun _ _ h => h))
    clear hln hz
    go_wp2_with (fail)
    refine (all_any gO gW 11 CO CW _ _ tsO tsW cs v2 HLO.out.own HLW.out.own HLO.out.tl HLW.out.tl (by omega) HCL.out).mono ?_
    rintro e v3 ⟨rfl, hs⟩
    replace HLW := Lib.hid (HLW.out.next hs)
    replace HLO := Lib.hid (HLO.out.next hs)
    replace HLT := Lib.hid (HLT.out.next hs)
    replace HSU := Lib.hid (HSU.out.trans hs (fun _ _ h => h))
    replace HV := Lib.hid (HV.out.trans hs (fun _ _ h => h))
    clear hs
    go_wp2_with (fail)
    refine (all_any gT gW 11 CT CW _ _ tsT tsW cs v3 HLT.out.own HLW.out.own HLT.out.tl HLW.out.tl (by omega) HCL.out).mono ?_
    rintro e v4 ⟨rfl, hs⟩
    replace HLW := Lib.hid (HLW.out.next hs)
    replace HLO := Lib.hid (HLO.out.next hs)
    replace HLT := Lib.hid (HLT.out.next hs)
    replace HSU := Lib.hid (HSU.out.trans hs (fun _ _ h => h))
    replace HV := Lib.hid (HV.out.trans hs (fun _ _ h => h))
    clear hs
    have ca0 : v4.cell? ⟨X, 0, none⟩ = some (.int .i64 Na) := (HBX.out.frm HSU.out id).cell 0
    have ca1 : v4.cell? ⟨X, 1, none⟩ = some (.slice Aa wsa.length Ca) := (HBX.out.frm HSU.out id).cell 1
    have la := (HBX.out.frm HSU.out id).lt
    go_wp2_with (fail)
    refine (kept_any Na Aa Ca wsa g1 C1 v4 (Sl.same Ha.out.ok.wl (HS.out.trans HSU.out (fun _ _ h => h))) hra (Own.frm HO1.out HSU.out (fun _ _ => id))).mono ?_
    rintro e v5 ⟨rfl, hs⟩
    clear ca0 ca1 la
    replace HLW := Lib.hid (HLW.out.next hs)
    replace HLO := Lib.hid (HLO.out.next hs)
    replace HLT := Lib.hid (HLT.out.next hs)
    replace HSU := Lib.hid (HSU.out.trans hs (fun _ _ h => h))
    replace HV := Lib.hid (HV.out.trans hs (fun _ _ h => h))
    clear hs
    have cb0 : v5.cell? ⟨Y, 0, none⟩ = some (.int .i64 Nb) := (HBY.out.frm HSU.out id).cell 0
    have cb1 : v5.cell? ⟨Y, 1, none⟩ = some (.slice Ab wsb.length Cb) := (HBY.out.frm HSU.out id).cell 1
    have lb := (HBY.out.frm HSU.out id).lt
    go_wp2_with (fail)
    refine (kept_any Nb Ab Cb wsb g2 C2 v5 (Sl.same Hb.out.ok.wl (HS.out.trans HSU.out (fun _ _ h => h))) hrb (Own.frm HO2.out HSU.out (fun _ _ => id))).mono ?_
    rintro e v6 ⟨rfl, hs⟩
    clear cb0 cb1 lb
    replace HLW := Lib.hid (HLW.out.next hs)
    replace HLO := Lib.hid (HLO.out.next hs)
    replace HLT := Lib.hid (HLT.out.next hs)
    replace HSU := Lib.hid (HSU.out.trans hs (fun _ _ h => h))
    replace HV := Lib.hid (HV.out.trans hs (fun _ _ h => h))
    clear hs
    obtain ⟨s0, h0, hgl, c0⟩ := Own.at1 (c := fun x : Int => .int .i64 x) (Own.frm HO3.out HSU.out (fun _ _ => id)) (i := p.length) (x := 91) (by simp)
    injection h0 with h0
    injection h0 with h0
    subst h0
    obtain ⟨s0, h0, _, c1⟩ := Own.at1 (c := fun x : Int => .int .i64 x) (Own.frm HO3.out HSU.out (fun _ _ => id)) (i := p.length + 1) (x := 92) (by simp)
    injection h0 with h0
    injection h0 with h0
    subst h0
    have hi0 : (0 : Int) ≤ p.length := by omega
    have hi1 : (p.length : Int) < p.length + 2 := by omega
    have hi2 : (p.length : Int) + 1 < p.length + 2 := by omega
    go_wp2
    obtain ⟨vl, rfl⟩ : ∃ z, z = v6 := ⟨_, rfl⟩
    clear hi0 hi1 hi2 c0 c1 hgl
    go_loopw [107] (fun q wi => ∃ i : Nat, i ≤ p.length ∧ q = .int .i64 i ∧ Same vl wi) (fun q _ => p.length - (intOf q).toNat)
    case atStart => exact ⟨0, by omega, rfl, Frm.refl _ _⟩
    case round =>
      obtain ⟨i, hi, rfl, hs⟩ := hrel
      by_cases hlt : i < p.length
      · obtain ⟨x, hx⟩ : ∃ x, p[i]? = some x := ⟨_, List.getElem?_eq_getElem hlt⟩
        have hsu := HSU.out.trans hs (fun _ _ h => h)
        obtain ⟨s0, h0, hgl, c0⟩ := Own.at1 (c := fun x : Int => .int .i64 x) (Own.frm HO3.out hsu (fun _ _ => id)) (i := i) (x := x) (by rw [List.getElem?_append_left hlt]; exact hx)
        injection h0 with h0
        injection h0 with h0
        subst h0
        obtain ⟨bp, op, hA, hbp, c1⟩ := (Sl.same HI.out (HS.out.trans hsu (fun _ _ h => h))).at1 hx
        subst hA
        have hi0 : (0 : Int) ≤ i := by omega
        have hi1 : (i : Int) < p.length := by omega
        have hi2 : (i : Int) < p.length + 2 := by omega
        have HS2 := Lib.hid hs
        clear hs hsu hx
        go_upto_region 15 with fail
        refine wp_quiet (by kernel_rfl) (by kernel_rfl) ?_
        repeat (any_goals (first | go_big_quiet_step (fail) | quiet_step (fail)))
        refine wpQuiet_nil ?_
        rintro wy ⟨q, hq⟩
        have hsz : Same wr wy := by rw [hq]; exact more_same _ q
        clear hq
        go_wp2
        go_roundw
        case rel => exact ⟨i + 1, by omega, by go_num, HS2.out.trans hsz (fun _ _ h => h)⟩
        case measure => simp [intOf]; omega
      · obtain rfl : i = p.length := by omega
        replace HLW := Lib.hid (HLW.out.next hs)
        replace HLO := Lib.hid (HLO.out.next hs)
        replace HLT := Lib.hid (HLT.out.next hs)
        replace HSU := Lib.hid (HSU.out.trans hs (fun _ _ h => h))
        replace HV := Lib.hid (HV.out.trans hs (fun _ _ h => h))
        clear hs
        obtain ⟨vm, rfl⟩ : ∃ z, z = wr := ⟨_, rfl⟩
        have cx0 : vm.cell? ⟨XX, 0, none⟩ = some (.int .i64 Na) := (HBXX.out.frm HSU.out id).cell 0
        have cx1 : vm.cell? ⟨XX, 1, none⟩ = some (.slice (some ⟨g1, 0, none⟩) wsa.length C1) := (HBXX.out.frm HSU.out id).cell 1
        have lx := (HBXX.out.frm HSU.out id).lt
        have cy0 : vm.cell? ⟨YY, 0, none⟩ = some (.int .i64 Nb) := (HBYY.out.frm HSU.out id).cell 0
        have cy1 : vm.cell? ⟨YY, 1, none⟩ = some (.slice (some ⟨g2, 0, none⟩) wsb.length C2) := (HBYY.out.frm HSU.out id).cell 1
        have ly := (HBYY.out.frm HSU.out id).lt
        go_wp2
        clear cx0 cx1 lx cy0 cy1 ly
        go_loopw [123] (fun q wi => ∃ i : Nat, i ≤ wsa.length ∧ q = .int .i64 i ∧ Frm (fun b => b = g1) vm wi ∧ OwnW wi (some ⟨g1, 0, none⟩) (wsa.length + 3) C1 (xw wsa i ++ [71, 72, 73])) (fun q _ => wsa.length - (intOf q).toNat)
        case atStart => exact ⟨0, by omega, rfl, Frm.refl _ _, by rw [xw_zero]; exact Own.frm HO1.out HSU.out (fun _ _ => id)⟩
        case round =>
          obtain ⟨i, hi, rfl, hf, hw1⟩ := hrel
          by_cases hlt2 : i < wsa.length
          · obtain ⟨x, hx⟩ : ∃ x, wsa[i]? = some x := ⟨_, List.getElem?_eq_getElem hlt2⟩
            have hbx := (HBXX.out.frm HSU.out id).frm hf (fun h => by omega)
            have cx0 : wr.cell? ⟨XX, 0, none⟩ = some (.int .i64 Na) := hbx.cell 0
            have cx1 : wr.cell? ⟨XX, 1, none⟩ = some (.slice (some ⟨g1, 0, none⟩) wsa.length C1) := hbx.cell 1
            have lx := hbx.lt
            obtain ⟨s0, h0, hgl, c0⟩ := Own.at1 (c := fun x : Nat => .int .u64 (x : Int)) hw1 (xw_get wsa [71, 72, 73] hx)
            injection h0 with h0
            injection h0 with h0
            subst h0
            have fz := Own.free hw1 i
            have hxr : bits .xor .u64 (x : Int) 1 = ((x ^^^ 1 : Nat) : Int) := u64_xor_nat x 1 (Small.at1 Ha.out.ok.small hx) (by decide)
            have hi0 : (0 : Int) ≤ i := by omega
            have hi1 : (i : Int) < wsa.length := by omega
            have hst := Lib.hid (xw_set wsa [71, 72, 73] hx)
            have hln : i < (xw wsa i ++ [71, 72, 73]).length := by rw [List.length_append, xw_len wsa hi]; omega
            have HPT := Lib.hid (Own.put1 (c := fun x : Nat => .int .u64 (x : Int)) hw1 hln (x ^^^ 1))
            have HF := Lib.hid (hf.set i (.int .u64 ((x ^^^ 1 : Nat) : Int)) (rfl : g1 = g1))
            rw [hst.out] at HPT
            clear hbx hx hst hln hw1 hf
            go_wp2
            go_roundw
            case rel => exact ⟨i + 1, by omega, by go_num, HF.out, HPT.out⟩
            case measure => simp [intOf]; omega
          · have hie : i = wsa.length := by omega
            subst hie
            rw [xw_all] at hw1
            obtain ⟨vn, rfl⟩ : ∃ z, z = wr := ⟨_, rfl⟩
            have hvn : v1.heap.size ≤ vn.heap.size := Nat.le_trans HV.out.size hf.size
            replace HS := Lib.hid ((HS.out.trans HSU.out (fun _ _ h => h)).trans hf (fun i hi (h : i = g1) => by omega))
            replace HBX := Lib.hid ((HBX.out.frm HSU.out id).frm hf (fun h => by omega))
            replace HBY := Lib.hid ((HBY.out.frm HSU.out id).frm hf (fun h => by omega))
            replace HBXX := Lib.hid ((HBXX.out.frm HSU.out id).frm hf (fun h => by omega))
            replace HBYY := Lib.hid ((HBYY.out.frm HSU.out id).frm hf (fun h => by omega))
            replace HO1 := Lib.hid hw1
            replace HO2 := Lib.hid (frm_own (Own.frm HO2.out HSU.out (fun _ _ => id)) hf (fun b hb he => by have := rw_some.1 hb; omega))
            replace HO3 := Lib.hid (frm_own (Own.frm HO3.out HSU.out (fun _ _ => id)) hf (fun b hb he => by have := rw_some.1 hb; omega))
            replace HLW := Lib.hid (HLW.out.turn hf (by omega))
            replace HLO := Lib.hid (HLO.out.turn hf (by omega))
            replace HLT := Lib.hid (HLT.out.turn hf (by omega))
            obtain ⟨wx, hwx⟩ : ∃ z, z = wsa.map (· ^^^ 1) := ⟨_, rfl⟩
            rw [← hwx] at HO1
            have hxl : wx.length = wsa.length := by rw [hwx]; simp
            have HXM := Lib.hid (show Small wx by rw [hwx]; exact xw_small Ha.out.ok.small)
            have HXL := Lib.hid hxl
            replace HW1 := Lib.hid (Own.sl ucell_len (Own.front (xs := wx) (ys := [71, 72, 73]) ucell_len HO1.out))
            replace HW2 := Lib.hid (Own.sl ucell_len (Own.front (xs := wsb) (ys := [71, 72, 73]) ucell_len HO2.out))
            replace HP3 := Lib.hid (Own.il (Own.front (xs := p) (ys := [91, 92]) icell_len HO3.out))
            rw [hxl] at HW1
            replace HSU := Lib.hid (Frm.refl (fun _ => False) vn)
            clear hxl hwx hw1 hf HCS HANS
            obtain ⟨cs2, hcs⟩ : ∃ cs, cs = ansC Na wx Nb wsb v p := ⟨_, rfl⟩
            have HCL2 := Lib.hid (show ∀ (i : Nat) (c : Cn), cs2[i]? = some c → c.2.length ≤ 1024 by rw [hcs]; exact ansC_len Na wx Nb wsb v p)
            have HANS2 := Lib.hid (show ∀ A C A2 C2 A3 C3 w', WL w' A wsa.length wx → WL w' A2 wsb.length wsb → IL w' A3 p.length p → Calls Try.prog 46 #[.agg #[.int .i64 Na, .slice A wsa.length C], .agg #[.int .i64 Nb, .slice A2 wsb.length C2], .int .i64 v, .slice A3 p.length C3] w' (RetTs w' 11 cs2) from fun A C A2 C2 A3 C3 w' h1 h2 h3 => by
              rw [hcs, ← HXL.out]
              rw [← HXL.out] at h1
              exact answers_any Na A C wx Nb A2 C2 wsb v A3 p.length C3 p w' ⟨h1, HXM.out⟩ ⟨h2, Hb.out.ok.small⟩ h3 hlp)
            have HTA := Lib.hid (show ∀ w', WL w' (some ⟨g1, 0, none⟩) wsa.length wx → Calls Try.prog 15 #[.agg #[.int .i64 Na, .slice (some ⟨g1, 0, none⟩) wsa.length C1]] w' (fun e w2 => ∃ A C, e = .returned (.agg #[.int .i64 Na, .slice A wsa.length C]) ∧ OwnW w2 A wsa.length C wx ∧ Fresh w'.heap.size A ∧ Same w' w2) from fun w' h => by
              rw [← HXL.out] at h ⊢
              exact rtwin_any Na _ C1 wx w' h (by rw [HXL.out]; exact hra))
            clear hcs
            have HRT := Lib.hid (fun (i : Nat) (t : Tt) (hi : tsT[i]? = some t) => HLT.out.tl.row hi)
            have cx0 : vn.cell? ⟨XX, 0, none⟩ = some (.int .i64 Na) := (HBXX.out.frm HSU.out id).cell 0
            have cx1 : vn.cell? ⟨XX, 1, none⟩ = some (.slice (some ⟨g1, 0, none⟩) wsa.length C1) := (HBXX.out.frm HSU.out id).cell 1
            have lx := (HBXX.out.frm HSU.out id).lt
            have cy0 : vn.cell? ⟨YY, 0, none⟩ = some (.int .i64 Nb) := (HBYY.out.frm HSU.out id).cell 0
            have cy1 : vn.cell? ⟨YY, 1, none⟩ = some (.slice (some ⟨g2, 0, none⟩) wsb.length C2) := (HBYY.out.frm HSU.out id).cell 1
            have ly := (HBYY.out.frm HSU.out id).lt
            go_wp2_with (fail)
            refine (HANS2.out (some ⟨g1, 0, none⟩) C1 (some ⟨g2, 0, none⟩) C2 (some ⟨g3, 0, none⟩) C3 vn (Sl.same HW1.out HSU.out) (Sl.same HW2.out HSU.out) (Sl.same HP3.out HSU.out)).mono ?_
            intro e v7 hz
            obtain ⟨gL, CL, tsL, rfl, hln⟩ := hz.ln
            clear cx0 cx1 lx cy0 cy1 ly
            have HLL := Lib.hid hln.lf
            replace HLW := Lib.hid (HLW.out.next hln.same)
            replace HLO := Lib.hid (HLO.out.next hln.same)
            replace HLT := Lib.hid (HLT.out.next hln.same)
            replace HSU := Lib.hid (HSU.out.trans hln.same (fun _ _ h => h))
            clear hln hz
            have HS7 := Lib.hid (HS.out.trans HSU.out (fun _ _ h => h))
            go_upto_region 24 with fail
            go_cut [162] from 190 (fun q wx => q = .bool false ∧ Same v7 wx)
            case first =>
              have cx0 : v7.cell? ⟨XX, 0, none⟩ = some (.int .i64 Na) := (HBXX.out.frm HSU.out id).cell 0
              have cx1 : v7.cell? ⟨XX, 1, none⟩ = some (.slice (some ⟨g1, 0, none⟩) wsa.length C1) := (HBXX.out.frm HSU.out id).cell 1
              have lx := (HBXX.out.frm HSU.out id).lt
              have cy0 : v7.cell? ⟨YY, 0, none⟩ = some (.int .i64 Nb) := (HBYY.out.frm HSU.out id).cell 0
              have cy1 : v7.cell? ⟨YY, 1, none⟩ = some (.slice (some ⟨g2, 0, none⟩) wsb.length C2) := (HBYY.out.frm HSU.out id).cell 1
              have ly := (HBYY.out.frm HSU.out id).lt
              refine wp_fS (fun _ => False) (.q [0, 1, 3, 5, 7] (.br 2 (.br 4 (.br 6 (.br 8 (.br 9 (.br 10 (.q [11, 12, 13, 14] (.br 15 (.q [16, 17, 18, 19, 20] (.br 21 (.q [22] (.last 23)) .stop)) .stop)) .stop) .stop) .stop) .stop) (.br 6 (.br 4 (.br 8 (.br 9 (.br 10 (.q [11, 12, 13, 14] (.br 15 (.q [16, 17, 18, 19, 20] (.br 21 (.q [22] (.last 23)) .stop)) .stop)) .stop) .stop) .stop) .stop) .stop)) (.br 6 (.br 2 (.br 4 (.br 8 (.br 9 (.br 10 (.q [11, 12, 13, 14] (.br 15 (.q [16, 17, 18, 19, 20] (.br 21 (.q [22] (.last 23)) .stop)) .stop)) .stop) .stop) .stop) .stop) .stop) .stop))) (by kernel_rfl) (by kernel_rfl) ?_
              simp only [wpF, pick, List.map_cons, List.map_nil, List.getD_cons_zero, List.getD_cons_succ]
              obtain ⟨v7d, hud⟩ : ∃ z, z = v7.drew := ⟨_, rfl⟩
              have hqd : Same v7 v7d := by rw [hud]; exact (Frm.refl _ _).drew
              rw [← hud]
              clear hud
              repeat (any_goals (first | go_big_quiet_step (fail) | quiet_step (fail)))
              refine wpQuiet_nil ?_
              refine ⟨?_, ?_⟩
              · refine effStep_plain rfl fun K hK => ?_
                go_simp
                refine (HTA.out (v7d) (Sl.same HW1.out (HSU.out.trans hqd (fun _ _ h => h)))).mono ?_
                rintro e z0 ⟨Ta, Da, rfl, hN⟩
                have hsz0 : Same v7 z0 := hqd.trans hN.2.2 (fun _ _ h => h)
                have hoa := hN.1
                clear hN
                refine hK _ _ (Lat.mk_ hsz0) ?_
                clear hK K
                refine ⟨?_, ?_⟩
                · refine effStep_plain rfl fun K hK => ?_
                  go_simp
                  refine (rtwin_any Nb (some ⟨g2, 0, none⟩) C2 wsb (z0) (Sl.same HW2.out (HSU.out.trans hsz0 (fun _ _ h => h))) hrb).mono ?_
                  rintro e z1 ⟨Tb, Db, rfl, hN⟩
                  have hsz1 : Same v7 z1 := hsz0.trans hN.2.2 (fun _ _ h => h)
                  have hob := hN.1
                  replace hoa := Own.frm hoa hN.2.2 (fun _ _ => id)
                  clear hN
                  refine hK _ _ (Lat.mk_ hsz1) ?_
                  clear hK K
                  refine effStep_plain rfl fun K hK => ?_
                  go_simp
                  refine hK _ _ (Lat.mk_ (Frm.alloc hsz1 _)) ?_
                  clear hK K
                  have hO := Own.lit (z1) 3 icell (fun _ => rfl) [] (by simp) (cs := #[]) rfl
                  obtain ⟨z2, hz⟩ : ∃ z, z = World.alloc (z1) (.cells #[] 3) := ⟨_, rfl⟩
                  rw [← hz] at hO ⊢
                  have hsl : Same (z1) z2 := by rw [hz]; exact (Frm.refl _ _).alloc _
                  have hL : (z1).heap.size < z2.heap.size := by rw [hz]; simp
                  have hLu : v7.heap.size ≤ (z1).heap.size := hsz1.size
                  have hsz2 : Same v7 z2 := hsz1.trans hsl (fun _ _ h => h)
                  have hga : ∀ x, rowOf Ta x → x ≠ (z1).heap.size := fun x hx h => by have := Own.row hoa x hx; omega
                  replace hoa := Own.frm hoa hsl (fun _ _ => id)
                  have hgb : ∀ x, rowOf Tb x → x ≠ (z1).heap.size := fun x hx h => by have := Own.row hob x hx; omega
                  replace hob := Own.frm hob hsl (fun _ _ => id)
                  obtain ⟨L0, hL0⟩ : ∃ z, z = (z1).heap.size := ⟨_, rfl⟩
                  rw [← hL0] at hO hL hLu hga hgb ⊢
                  clear hL0 hsl hz
                  refine effStep_plain rfl fun K hK => ?_
                  refine Own.append_many (.tmp 145) (.tmp 146) _ rfl Try.underlying59 info_int rfl (by omega) rfl hO (fun _ => rfl) p Ap Cp rfl (fun hne => il_src (Sl.same HI.out (HS7.out.trans hsz2 (fun _ _ h => h))) hne) (by simp [icell, Value.oneCell']) (by simp [maxLen]; omega) (by simp; omega) ?_
                  intro Aq Cq wq hOq hg1 hat1
                  have hsq : Same v7 wq := hsz2.grown hg1 (fun g hg => .inr (by have h := rw_some.1 (rw_own hg); omega))
                  replace hoa := Own.keptBy hoa hg1 (fun b hb hr => hga b hr (rw_some.1 (rw_own hb)))
                  replace hob := Own.keptBy hob hg1 (fun b hb hr => hgb b hr (rw_some.1 (rw_own hb)))
                  refine hK _ _ (Lat.mk_ hsq) ?_
                  clear hK K
                  simp only [List.nil_append] at hOq ⊢
                  clear hg1 hat1 hga hgb hO hL hLu
                  refine effStep_plain rfl fun K hK => ?_
                  go_simp
                  refine (HANS2.out Ta Da Tb Db Aq Cq wq (hoa.sl ucell_len) (hob.sl ucell_len) (Own.il hOq)).mono ?_
                  intro e wz hz
                  obtain ⟨gZ, CZ, tsZ, rfl, hln⟩ := hz.ln
                  have hq1 := hsq.trans hln.same (fun _ _ h => h)
                  refine hK _ _ (Lat.mk_ hq1) ?_
                  clear hK K
                  refine effStep_plain rfl fun K hK => ?_
                  go_simp
                  refine (all_any gL gZ 11 CL CZ _ _ tsL tsZ cs2 wz (HLL.out.next hq1).own (hln.lf).own (HLL.out.next hq1).tl (hln.lf).tl (by omega) HCL2.out).mono ?_
                  rintro e wy1 ⟨rfl, hs⟩
                  have hq2 := hq1.trans hs (fun _ _ h => h)
                  refine hK _ _ (Lat.mk_ hq2) ?_
                  clear hK K hs
                  repeat (any_goals (first | go_big_quiet_step (fail) | quiet_step (fail)))
                  refine wpQuiet_nil ?_
                  refine effStep_on (by rfl) fun K hK => ?_
                  go_simp
                  refine (all_any gO gW 11 CO CW _ _ tsO tsW cs wy1 (HLO.out.next hq2).own (HLW.out.next hq2).own (HLO.out.next hq2).tl (HLW.out.next hq2).tl (by omega) HCL.out).mono ?_
                  rintro e wy2 ⟨rfl, hs⟩
                  have hq3 := hq2.trans hs (fun _ _ h => h)
                  refine hK _ _ (Lat.mk_ hq3) ?_
                  clear hK K hs
                  repeat (any_goals (first | go_big_quiet_step (fail) | quiet_step (fail)))
                  refine wpQuiet_nil ?_
                  refine effStep_on (by rfl) fun K hK => ?_
                  go_simp
                  refine (all_any gT gW 11 CT CW _ _ tsT tsW cs wy2 (HLT.out.next hq3).own (HLW.out.next hq3).own (HLT.out.next hq3).tl (HLW.out.next hq3).tl (by omega) HCL.out).mono ?_
                  rintro e wy3 ⟨rfl, hs⟩
                  have hq4 := hq3.trans hs (fun _ _ h => h)
                  refine hK _ _ (Lat.mk_ hq4) ?_
                  clear hK K hs
                  repeat (any_goals (first | go_big_quiet_step (fail) | quiet_step (fail)))
                  refine wpQuiet_nil ?_
                  go_wp2_with fail
                  go_meet
                  exact ⟨rfl, hq4⟩
                · refine effStep_plain rfl fun K hK => ?_
                  go_simp
                  refine hK _ _ (Lat.mk_ (Frm.alloc hsz0 _)) ?_
                  clear hK K
                  have hO := Own.lit (z0) 3 icell (fun _ => rfl) [] (by simp) (cs := #[]) rfl
                  obtain ⟨z1, hz⟩ : ∃ z, z = World.alloc (z0) (.cells #[] 3) := ⟨_, rfl⟩
                  rw [← hz] at hO ⊢
                  have hsl : Same (z0) z1 := by rw [hz]; exact (Frm.refl _ _).alloc _
                  have hL : (z0).heap.size < z1.heap.size := by rw [hz]; simp
                  have hLu : v7.heap.size ≤ (z0).heap.size := hsz0.size
                  have hsz1 : Same v7 z1 := hsz0.trans hsl (fun _ _ h => h)
                  have hga : ∀ x, rowOf Ta x → x ≠ (z0).heap.size := fun x hx h => by have := Own.row hoa x hx; omega
                  replace hoa := Own.frm hoa hsl (fun _ _ => id)
                  obtain ⟨L0, hL0⟩ : ∃ z, z = (z0).heap.size := ⟨_, rfl⟩
                  rw [← hL0] at hO hL hLu hga ⊢
                  clear hL0 hsl hz
                  refine effStep_plain rfl fun K hK => ?_
                  go_simp
                  refine (rtwin_any Nb (some ⟨g2, 0, none⟩) C2 wsb (z1) (Sl.same HW2.out (HSU.out.trans hsz1 (fun _ _ h => h))) hrb).mono ?_
                  rintro e z2 ⟨Tb, Db, rfl, hN⟩
                  have hsz2 : Same v7 z2 := hsz1.trans hN.2.2 (fun _ _ h => h)
                  have hob := hN.1
                  have hgb : ∀ x, rowOf Tb x → x ≠ L0 := fun x hx h => by have := hN.2.1 x hx; omega
                  replace hO := Own.frm hO hN.2.2 (fun _ _ => id)
                  replace hL : L0 < z2.heap.size := Nat.lt_of_lt_of_le hL hN.2.2.size
                  replace hoa := Own.frm hoa hN.2.2 (fun _ _ => id)
                  clear hN
                  refine hK _ _ (Lat.mk_ hsz2) ?_
                  clear hK K
                  refine effStep_plain rfl fun K hK => ?_
                  refine Own.append_many (.tmp 145) (.tmp 146) _ rfl Try.underlying59 info_int rfl (by omega) rfl hO (fun _ => rfl) p Ap Cp rfl (fun hne => il_src (Sl.same HI.out (HS7.out.trans hsz2 (fun _ _ h => h))) hne) (by simp [icell, Value.oneCell']) (by simp [maxLen]; omega) (by simp; omega) ?_
                  intro Aq Cq wq hOq hg1 hat1
                  have hsq : Same v7 wq := hsz2.grown hg1 (fun g hg => .inr (by have h := rw_some.1 (rw_own hg); omega))
                  replace hoa := Own.keptBy hoa hg1 (fun b hb hr => hga b hr (rw_some.1 (rw_own hb)))
                  replace hob := Own.keptBy hob hg1 (fun b hb hr => hgb b hr (rw_some.1 (rw_own hb)))
                  refine hK _ _ (Lat.mk_ hsq) ?_
                  clear hK K
                  simp only [List.nil_append] at hOq ⊢
                  clear hg1 hat1 hga hgb hO hL hLu
                  refine effStep_plain rfl fun K hK => ?_
                  go_simp
                  refine (HANS2.out Ta Da Tb Db Aq Cq wq (hoa.sl ucell_len) (hob.sl ucell_len) (Own.il hOq)).mono ?_
                  intro e wz hz
                  obtain ⟨gZ, CZ, tsZ, rfl, hln⟩ := hz.ln
                  have hq1 := hsq.trans hln.same (fun _ _ h => h)
                  refine hK _ _ (Lat.mk_ hq1) ?_
                  clear hK K
                  refine effStep_plain rfl fun K hK => ?_
                  go_simp
                  refine (all_any gL gZ 11 CL CZ _ _ tsL tsZ cs2 wz (HLL.out.next hq1).own (hln.lf).own (HLL.out.next hq1).tl (hln.lf).tl (by omega) HCL2.out).mono ?_
                  rintro e wy1 ⟨rfl, hs⟩
                  have hq2 := hq1.trans hs (fun _ _ h => h)
                  refine hK _ _ (Lat.mk_ hq2) ?_
                  clear hK K hs
                  repeat (any_goals (first | go_big_quiet_step (fail) | quiet_step (fail)))
                  refine wpQuiet_nil ?_
                  refine effStep_on (by rfl) fun K hK => ?_
                  go_simp
                  refine (all_any gO gW 11 CO CW _ _ tsO tsW cs wy1 (HLO.out.next hq2).own (HLW.out.next hq2).own (HLO.out.next hq2).tl (HLW.out.next hq2).tl (by omega) HCL.out).mono ?_
                  rintro e wy2 ⟨rfl, hs⟩
                  have hq3 := hq2.trans hs (fun _ _ h => h)
                  refine hK _ _ (Lat.mk_ hq3) ?_
                  clear hK K hs
                  repeat (any_goals (first | go_big_quiet_step (fail) | quiet_step (fail)))
                  refine wpQuiet_nil ?_
                  refine effStep_on (by rfl) fun K hK => ?_
                  go_simp
                  refine (all_any gT gW 11 CT CW _ _ tsT tsW cs wy2 (HLT.out.next hq3).own (HLW.out.next hq3).own (HLT.out.next hq3).tl (HLW.out.next hq3).tl (by omega) HCL.out).mono ?_
                  rintro e wy3 ⟨rfl, hs⟩
                  have hq4 := hq3.trans hs (fun _ _ h => h)
                  refine hK _ _ (Lat.mk_ hq4) ?_
                  clear hK K hs
                  repeat (any_goals (first | go_big_quiet_step (fail) | quiet_step (fail)))
                  refine wpQuiet_nil ?_
                  go_wp2_with fail
                  go_meet
                  exact ⟨rfl, hq4⟩
              · refine effStep_plain rfl fun K hK => ?_
                go_simp
                refine hK _ _ (Lat.mk_ (Frm.alloc hqd _)) ?_
                clear hK K
                have hO := Own.lit (v7d) 3 icell (fun _ => rfl) [] (by simp) (cs := #[]) rfl
                obtain ⟨z0, hz⟩ : ∃ z, z = World.alloc (v7d) (.cells #[] 3) := ⟨_, rfl⟩
                rw [← hz] at hO ⊢
                have hsl : Same (v7d) z0 := by rw [hz]; exact (Frm.refl _ _).alloc _
                have hL : (v7d).heap.size < z0.heap.size := by rw [hz]; simp
                have hLu : v7.heap.size ≤ (v7d).heap.size := hqd.size
                have hsz0 : Same v7 z0 := hqd.trans hsl (fun _ _ h => h)
                obtain ⟨L0, hL0⟩ : ∃ z, z = (v7d).heap.size := ⟨_, rfl⟩
                rw [← hL0] at hO hL hLu ⊢
                clear hL0 hsl hz
                refine effStep_plain rfl fun K hK => ?_
                go_simp
                refine (HTA.out (z0) (Sl.same HW1.out (HSU.out.trans hsz0 (fun _ _ h => h)))).mono ?_
                rintro e z1 ⟨Ta, Da, rfl, hN⟩
                have hsz1 : Same v7 z1 := hsz0.trans hN.2.2 (fun _ _ h => h)
                have hoa := hN.1
                have hga : ∀ x, rowOf Ta x → x ≠ L0 := fun x hx h => by have := hN.2.1 x hx; omega
                replace hO := Own.frm hO hN.2.2 (fun _ _ => id)
                replace hL : L0 < z1.heap.size := Nat.lt_of_lt_of_le hL hN.2.2.size
                clear hN
                refine hK _ _ (Lat.mk_ hsz1) ?_
                clear hK K
                refine effStep_plain rfl fun K hK => ?_
                go_simp
                refine (rtwin_any Nb (some ⟨g2, 0, none⟩) C2 wsb (z1) (Sl.same HW2.out (HSU.out.trans hsz1 (fun _ _ h => h))) hrb).mono ?_
                rintro e z2 ⟨Tb, Db, rfl, hN⟩
                have hsz2 : Same v7 z2 := hsz1.trans hN.2.2 (fun _ _ h => h)
                have hob := hN.1
                have hgb : ∀ x, rowOf Tb x → x ≠ L0 := fun x hx h => by have := hN.2.1 x hx; omega
                replace hO := Own.frm hO hN.2.2 (fun _ _ => id)
                replace hL : L0 < z2.heap.size := Nat.lt_of_lt_of_le hL hN.2.2.size
                replace hoa := Own.frm hoa hN.2.2 (fun _ _ => id)
                clear hN
                refine hK _ _ (Lat.mk_ hsz2) ?_
                clear hK K
                refine effStep_plain rfl fun K hK => ?_
                refine Own.append_many (.tmp 145) (.tmp 146) _ rfl Try.underlying59 info_int rfl (by omega) rfl hO (fun _ => rfl) p Ap Cp rfl (fun hne => il_src (Sl.same HI.out (HS7.out.trans hsz2 (fun _ _ h => h))) hne) (by simp [icell, Value.oneCell']) (by simp [maxLen]; omega) (by simp; omega) ?_
                intro Aq Cq wq hOq hg1 hat1
                have hsq : Same v7 wq := hsz2.grown hg1 (fun g hg => .inr (by have h := rw_some.1 (rw_own hg); omega))
                replace hoa := Own.keptBy hoa hg1 (fun b hb hr => hga b hr (rw_some.1 (rw_own hb)))
                replace hob := Own.keptBy hob hg1 (fun b hb hr => hgb b hr (rw_some.1 (rw_own hb)))
                refine hK _ _ (Lat.mk_ hsq) ?_
                clear hK K
                simp only [List.nil_append] at hOq ⊢
                clear hg1 hat1 hga hgb hO hL hLu
                refine effStep_plain rfl fun K hK => ?_
                go_simp
                refine (HANS2.out Ta Da Tb Db Aq Cq wq (hoa.sl ucell_len) (hob.sl ucell_len) (Own.il hOq)).mono ?_
                intro e wz hz
                obtain ⟨gZ, CZ, tsZ, rfl, hln⟩ := hz.ln
                have hq1 := hsq.trans hln.same (fun _ _ h => h)
                refine hK _ _ (Lat.mk_ hq1) ?_
                clear hK K
                refine effStep_plain rfl fun K hK => ?_
                go_simp
                refine (all_any gL gZ 11 CL CZ _ _ tsL tsZ cs2 wz (HLL.out.next hq1).own (hln.lf).own (HLL.out.next hq1).tl (hln.lf).tl (by omega) HCL2.out).mono ?_
                rintro e wy1 ⟨rfl, hs⟩
                have hq2 := hq1.trans hs (fun _ _ h => h)
                refine hK _ _ (Lat.mk_ hq2) ?_
                clear hK K hs
                repeat (any_goals (first | go_big_quiet_step (fail) | quiet_step (fail)))
                refine wpQuiet_nil ?_
                refine effStep_on (by rfl) fun K hK => ?_
                go_simp
                refine (all_any gO gW 11 CO CW _ _ tsO tsW cs wy1 (HLO.out.next hq2).own (HLW.out.next hq2).own (HLO.out.next hq2).tl (HLW.out.next hq2).tl (by omega) HCL.out).mono ?_
                rintro e wy2 ⟨rfl, hs⟩
                have hq3 := hq2.trans hs (fun _ _ h => h)
                refine hK _ _ (Lat.mk_ hq3) ?_
                clear hK K hs
                repeat (any_goals (first | go_big_quiet_step (fail) | quiet_step (fail)))
                refine wpQuiet_nil ?_
                refine effStep_on (by rfl) fun K hK => ?_
                go_simp
                refine (all_any gT gW 11 CT CW _ _ tsT tsW cs wy2 (HLT.out.next hq3).own (HLW.out.next hq3).own (HLT.out.next hq3).tl (HLW.out.next hq3).tl (by omega) HCL.out).mono ?_
                rintro e wy3 ⟨rfl, hs⟩
                have hq4 := hq3.trans hs (fun _ _ h => h)
                refine hK _ _ (Lat.mk_ hq4) ?_
                clear hK K hs
                repeat (any_goals (first | go_big_quiet_step (fail) | quiet_step (fail)))
                refine wpQuiet_nil ?_
                go_wp2_with fail
                go_meet
                exact ⟨rfl, hq4⟩
            case rest =>
              obtain ⟨rfl, hs⟩ := hcut
              replace HLW := Lib.hid (HLW.out.next hs)
              replace HLO := Lib.hid (HLO.out.next hs)
              replace HLT := Lib.hid (HLT.out.next hs)
              replace HLL := Lib.hid (HLL.out.next hs)
              replace HSU := Lib.hid (HSU.out.trans hs (fun _ _ h => h))
              clear hs
              obtain ⟨v8, rfl⟩ : ∃ z, z = wc := ⟨_, rfl⟩
              go_upto_region 27 with fail
              refine wp_world fun v9 hw => ?_
              have hs : Same v8 v9 := by rw [hw]; exact (Frm.refl _ _).alloc _
              have hLL := Own.lit v8 22 rcell rcell_len [⟨some ⟨g1, 0, none⟩, wsa.length + 3, C1⟩, ⟨some ⟨g2, 0, none⟩, wsb.length + 3, C2⟩] (by simp [maxLen]) (cs := #[.slice (some ⟨g1, 0, none⟩) (wsa.length + 3) C1, .slice (some ⟨g2, 0, none⟩) (wsb.length + 3) C2]) rfl
              rw [← hw] at hLL
              simp only [List.length_cons, List.length_nil, Nat.zero_add, Nat.reduceAdd] at hLL
              clear hw
              obtain ⟨GL, hGL⟩ : ∃ z, z = v8.heap.size := ⟨_, rfl⟩
              rw [← hGL] at hLL ⊢
              have HRL := Lib.hid (show ∀ (i : Nat) (t : Tt), tsL[i]? = some t → ∀ b, rowOf t.A b → b < GL from fun i t hi b hb => by rw [hGL]; exact HLL.out.tl.row hi b hb)
              have hgl9 : GL < v9.heap.size := Own.row hLL GL ⟨_, rfl, rfl⟩
              have hgl8 : vn.heap.size ≤ GL := by rw [hGL]; exact HSU.out.size
              have hgO : g3 < GL := by omega
              have HGO := Lib.hid (show gO < GL ∧ gT < GL ∧ gL < GL by
                rw [hGL]
                exact ⟨Own.row HLO.out.own gO ⟨_, rfl, rfl⟩, Own.row HLT.out.own gT ⟨_, rfl, rfl⟩, Own.row HLL.out.own gL ⟨_, rfl, rfl⟩⟩)
              clear hGL
              replace HLO := Lib.hid (HLO.out.next hs)
              replace HLT := Lib.hid (HLT.out.next hs)
              replace HLL := Lib.hid (HLL.out.next hs)
              replace HSU := Lib.hid (HSU.out.trans hs (fun _ _ h => h))
              clear hs
              go_upto_region 28 with fail
              refine wp_world fun va hw => ?_
              have hs : Same v9 va := by rw [hw]; exact (Frm.refl _ _).alloc _
              have hBO : Blk va v9.heap.size 49 #[.slice (some ⟨gO, 0, none⟩) 11 CO, .slice (some ⟨gT, 0, none⟩) 11 CT, .slice (some ⟨gL, 0, none⟩) 11 CL] := by rw [hw]; exact Blk.new _ _ _
              replace hLL := Own.frm hLL hs (fun _ _ => id)
              clear hw
              replace HLO := Lib.hid (HLO.out.next hs)
              replace HLT := Lib.hid (HLT.out.next hs)
              replace HLL := Lib.hid (HLL.out.next hs)
              replace HSU := Lib.hid (HSU.out.trans hs (fun _ _ h => h))
              clear hs
              obtain ⟨OO, hOO⟩ : ∃ z, z = v9.heap.size := ⟨_, rfl⟩
              rw [← hOO] at hBO hgl9 ⊢
              have hva : OO < va.heap.size := hBO.lt
              clear hOO
              obtain ⟨rs, hrs⟩ : ∃ rs : List Rw, rs = [⟨some ⟨g1, 0, none⟩, wsa.length + 3, C1⟩] ++ [⟨some ⟨g2, 0, none⟩, wsb.length + 3, C2⟩] ++ tsO.map tr ++ tsT.map tr ++ tsL.map tr := ⟨_, rfl⟩
              have lO : tsO.length = 11 := HLO.out.own.len.symm
              have lT : tsT.length = 11 := HLT.out.own.len.symm
              have lL : tsL.length = 11 := HLL.out.own.len.symm
              have hrl : rs.length = 35 := by rw [hrs]; simp [lO, lT, lL]
              have hrw : RW w.heap.size GL va rs := by
                rw [hrs]
                have a1 : RW w.heap.size XX va [⟨some ⟨g1, 0, none⟩, wsa.length + 3, C1⟩] := RW.one (Own.frm HO1.out HSU.out (fun _ _ => id)) (by omega) (by omega) (by omega)
                have a2 : RW XX YY va [⟨some ⟨g2, 0, none⟩, wsb.length + 3, C2⟩] := RW.one (Own.frm HO2.out HSU.out (fun _ _ => id)) (by omega) (by omega) (by omega)
                have a3 := HLO.out.tl.rw HCL.out HRO.out
                have a4 := HLT.out.tl.rw HCL.out HRT.out
                have a5 := HLL.out.tl.rw HCL2.out HRL.out
                exact (((a1.append a2 (by omega) (by omega) (by omega)).append a3 (by omega) (by omega) (by omega)).append a4 (by omega) (by omega) (by omega)).append a5 (by omega) (by omega) (by omega)
              have hgets : ∀ i, i < 3 → ∃ (g C : Nat) (ts : List Tt), (#[.slice (some ⟨gO, 0, none⟩) 11 CO, .slice (some ⟨gT, 0, none⟩) 11 CT, .slice (some ⟨gL, 0, none⟩) 11 CL] : Array Value)[i]? = some (.slice (some ⟨g, 0, none⟩) 11 C) ∧ g < GL ∧ ts.length = 11 ∧ Own va 24 2 ttcell (some ⟨g, 0, none⟩) 11 C ts ∧ ∀ (j : Nat) (t : Tt), ts[j]? = some t → rs[2 + 11 * i + j]? = some (tr t) := by
                have at_ : ∀ (xs zs : List Rw) (ts : List Tt) (k j : Nat) (t : Tt), ts[j]? = some t → xs.length = k → (xs ++ ts.map tr ++ zs)[k + j]? = some (tr t) := fun xs zs ts k j t ht hk => by
                  have hj := lt_of_get ht
                  rw [List.append_assoc, List.getElem?_append_right (by omega), List.getElem?_append_left (by rw [List.length_map]; omega), List.getElem?_map, show k + j - xs.length = j by omega, ht]
                  rfl
                intro i hi
                have : i = 0 ∨ i = 1 ∨ i = 2 := by omega
                rcases this with rfl | rfl | rfl
                · refine ⟨gO, CO, tsO, rfl, HGO.out.1, lO, HLO.out.own, fun j t ht => ?_⟩
                  rw [hrs, List.append_assoc (_ ++ _) (tsT.map tr)]
                  exact at_ _ _ tsO _ j t ht (by simp)
                · refine ⟨gT, CT, tsT, rfl, HGO.out.2.1, lT, HLT.out.own, fun j t ht => ?_⟩
                  rw [hrs]
                  exact at_ _ _ tsT _ j t ht (by simp [lO])
                · refine ⟨gL, CL, tsL, rfl, HGO.out.2.2, lL, HLL.out.own, fun j t ht => ?_⟩
                  rw [hrs, ← List.append_nil (_ ++ tsL.map tr)]
                  exact at_ _ _ tsL _ j t ht (by simp [lO, lT])
              have hkl : KL va va GL GL 2 2 (rs.take 2) := by
                refine ⟨Frm.refl _ _, ?_, .inl rfl⟩
                rw [hrs]
                exact hLL
              have HSA := Lib.hid (HS.out.trans HSU.out (fun _ _ h => h))
              have HKL := Lib.hid hkl
              have HGS := Lib.hid hgets
              have HRS := Lib.hid hrw
              have HBO := Lib.hid hBO
              have HRN := Lib.hid hrl
              have hwg : w.heap.size ≤ GL := by omega
              clear hkl hgets hrw hBO hrl hrs hLL lO lT lL HLO HLT HLL HLW HRO HRT HRL HO1 HO2 HO3 HBX HBY HBXX HBYY HW1 HW2 HP3 HANS2 HTA HCL HCL2 HSU HS HXM HXL HS7 HGO
              go_loopw [21, 171] (fun l q wi => ∃ i LA LC : Nat, i ≤ 3 ∧ q = .int .i64 i ∧ l = .slice (some ⟨LA, 0, none⟩) (2 + 11 * i) LC ∧ KL va wi GL LA LC (2 + 11 * i) (rs.take (2 + 11 * i))) (fun _ q _ => 3 - (intOf q).toNat)
              case atStart => exact ⟨0, GL, 2, by omega, rfl, rfl, HKL.out⟩
              case round =>
                clear HKL
                obtain ⟨i, LA, LC, hi, rfl, rfl, hkl⟩ := hrel
                by_cases hl3 : i < 3
                · obtain ⟨g, C, ts, hc, hgg, htl, hot, hrt⟩ := HGS.out i hl3
                  have hcO : wr.cell? ⟨OO, i, none⟩ = some (.slice (some ⟨g, 0, none⟩) 11 C) := by rw [(HBO.out.frm hkl.frm (fun h => by omega)).cell i]; exact hc
                  have lOO := (HBO.out.frm hkl.frm (fun h => by omega)).lt
                  have hi0 : (0 : Int) ≤ i := by omega
                  have hi1 : (i : Int) < 3 := by omega
                  have HK := Lib.hid hkl
                  have HOT := Lib.hid hot
                  have HRT := Lib.hid hrt
                  have HTL := Lib.hid htl
                  clear hc hkl hot hrt htl
                  go_wp2
                  clear hcO lOO hi0 hi1
                  obtain ⟨wo, rfl⟩ : ∃ z, z = wr := ⟨_, rfl⟩
                  go_loopw [21, 177] (fun l q wi => ∃ j LA LC : Nat, j ≤ 11 ∧ q = .int .i64 j ∧ l = .slice (some ⟨LA, 0, none⟩) (2 + 11 * i + j) LC ∧ KL va wi GL LA LC (2 + 11 * i + j) (rs.take (2 + 11 * i + j))) (fun _ q _ => 11 - (intOf q).toNat)
                  case atStart => exact ⟨0, LA, LC, by omega, rfl, rfl, HK.out⟩
                  case round =>
                    clear HK
                    obtain ⟨j, LB, LD, hj, rfl, rfl, hkl⟩ := hrel
                    by_cases hlj : j < 11
                    · obtain ⟨t, ht⟩ : ∃ t, ts[j]? = some t := ⟨_, List.getElem?_eq_getElem (by rw [HTL.out]; exact hlj)⟩
                      have hr := HRT.out j t ht
                      obtain ⟨hg0, hc0, hc1⟩ := tt_at (frm_own HOT.out hkl.frm (fun b hb h => by have := rw_some.1 hb; omega)) ht
                      have hj0 : (0 : Int) ≤ j := by omega
                      have hj1 : (j : Int) < 11 := by omega
                      have HK := Lib.hid hkl
                      have HR := Lib.hid hr
                      clear hkl hr ht
                      obtain ⟨tN, tA, tn, tC⟩ := t
                      simp only at hc0 hc1
                      go_upto_region 33 with fail
                      refine wp_world fun wa hw => ?_
                      have hsa : Same wr wa := by rw [hw]; exact (Frm.refl _ _).alloc _
                      have hBT : Blk wa wr.heap.size 24 #[.int .i64 tN, .slice tA tn tC] := by rw [hw]; exact Blk.new _ _ _
                      clear hw hc0 hc1 hg0
                      obtain ⟨TT, hTT⟩ : ∃ z, z = wr.heap.size := ⟨_, rfl⟩
                      rw [← hTT] at hBT ⊢
                      have ct1 : wa.cell? ⟨TT, 1, none⟩ = some (.slice tA tn tC) := hBT.cell 1
                      have lt := hBT.lt
                      clear hTT hBT
                      refine wp_region_lit ?_
                      refine wpList_read 3 ?_
                      simp only [List.take_succ_cons, List.take_zero, List.drop_succ_cons, List.drop_zero]
                      repeat (any_goals (first | go_big_quiet_step (fail) | quiet_step (fail)))
                      refine wpQuiet_nil ?_
                      refine wpList_plain rfl fun K hK => ?_
                      go_simp
                      refine hK _ _ ?_
                      clear hK K
                      refine list_world fun wc hwc => ?_
                      have hsc : Same wa wc := by rw [hwc]; exact (Frm.refl _ _).alloc _
                      have hNc := Blk.new wa 22 #[.slice tA tn tC]
                      rw [← hwc] at hNc
                      clear hwc
                      refine wpList_plain rfl fun K hK => ?_
                      refine Own.grow (f := rcell) (.tmp 181) (.tmp 184) _ rfl Try.underlying75 info_sl rfl rfl (Own.frm (Own.frm HK.out.own hsa (fun _ _ => id)) hsc (fun _ _ => id)) rcell_len [⟨tA, tn, tC⟩] (by simp) ⟨wa.heap.size, 0, none⟩ 1 rfl (fun j u hj => news_of_blk hNc j u hj) (by simp [rcell, Value.oneCell']) (by simp [maxLen]; omega) (by simp; omega) ?_
                      intro x C' wd hOd _ hgr hat
                      refine hK _ _ ?_
                      clear hK K ct1 lt
                      simp only [List.length_cons, List.length_nil, Nat.zero_add] at hOd ⊢
                      have hst := HK.out.step (hsa.trans hsc (fun _ _ h => h)) hgr hOd hat
                      have hst2 : KL va wd GL x C' (2 + 11 * i + (j + 1)) (rs.take (2 + 11 * i + (j + 1))) := by
                        rw [← Nat.add_assoc, List.take_add_one, HR.out]
                        exact hst
                      have HK2 := Lib.hid hst2
                      clear hgr hOd hat hNc hsc hsa hst hst2 HK
                      go_wp2
                      go_roundw
                      case rel => exact ⟨j + 1, x, C', by omega, by go_num, by go_num, HK2.out⟩
                      case measure => simp [intOf]; omega
                    · obtain rfl : j = 11 := by omega
                      have HK := Lib.hid hkl
                      clear hkl
                      go_wp2
                      go_roundw
                      case rel => exact ⟨i + 1, LB, LD, by omega, by go_num, by go_num, HK.out⟩
                      case measure => simp [intOf]; omega
                · obtain rfl : i = 3 := by omega
                  have hown : OwnR wr (some ⟨LA, 0, none⟩) 35 LC rs := by
                    have := hkl.own
                    rw [List.take_of_length_le (by rw [HRN.out]; omega)] at this
                    exact this
                  have hrw := HRS.out.frm hkl.frm (fun b hb => by omega)
                  have HAP := Lib.hid (apart_any (some ⟨LA, 0, none⟩) 35 LC rs wr (hown.sl rcell_len) (by omega) hrw.own hrw.dis (fun b hb i r hi hr => by
                    have h1 := rw_some.1 hb
                    have h2 := hrw.rng i r hi b hr
                    rcases hkl.at_ with h | h <;> omega) hrw.sz)
                  have HK := Lib.hid hkl
                  have HRR := Lib.hid hrw.rng
                  clear hown hrw hkl
                  simp only [Nat.reduceMul, Nat.reduceAdd]
                  go_wp2_with (fail)
                  refine HAP.out.mono ?_
                  rintro e wz ⟨rfl, hf⟩
                  have HZ := Lib.hid (((HSA.out.trans HK.out.frm (fun b hb (h : b = GL) => by omega)).trans hf (fun b hb ⟨i, r, h1, h2⟩ => by have := HRR.out i r h1 b h2; omega)).to_below (Nat.le_refl _) (fun _ _ => id))
                  clear hf
                  go_wp2
                  go_ret
                  exact ⟨rfl, HZ.out⟩
end Go.Proofs.Ytlggmoghgoeiiaa


/- The walk of TrKeep beside the given rows. -/
