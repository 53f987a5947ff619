/- Contracts and plain laws, put together in one file. No condition. -/
import Derived.Test.YtakepdkokjecoaaJShapePairs3
import Derived.BigRegion
import Derived.Test.YtakepdkokjecoaaRows


/- Shape: how many functions a level can have (plain). -/
namespace Go.Proofs.Ytakepdkokjecoaa
open Go.RowKit Go.Tk Go.Maps

/-- the table does not hang on the variable -/
def Ind (nn u : Nat) (x : List Nat) : Prop := ∀ i, i < 2 ^ nn → ∀ c, vb x (wth i u c) = vb x i
theorem hT_vb {nn v i : Nat} (b : Bool) (x : List Nat) (hi : i < 2 ^ nn) : vb (hT nn v b x) i = vb x (wth i v b) := vb_tab hi
theorem ind_step {nn v : Nat} (hv : v < nn) (b : Bool) (x : List Nat) : Ind nn v (hT nn v b x) := fun i hi c => by
  rw [hT_vb b x (wth_lt hi hv), hT_vb b x hi, wth_twice]
theorem ind_keep {nn u v : Nat} (hu : u < nn) (hv : v < nn) (b : Bool) {x : List Nat} (h : Ind nn u x) : Ind nn u (hT nn v b x) := by
  by_cases he : u = v
  · subst he; exact ind_step hu b x
  · intro i hi c
    rw [hT_vb b x (wth_lt hi hu), hT_vb b x hi, wth_comm he]
    exact h _ (wth_lt hi hv) c
theorem ind_set {nn : Nat} : ∀ (vs : List Nat) (L : List (List Nat)) (D : Nat → Prop), (∀ u, D u → u < nn) → (∀ v ∈ vs, v < nn) → (∀ x ∈ L, ∀ u, D u → Ind nn u x) → ∀ y ∈ setAt nn L vs, ∀ u, D u ∨ u ∈ vs → Ind nn u y
  | [], L, D, _, _, h, y, hy, u, hu => by
    rcases hu with hu | hu
    · exact h y hy u hu
    · cases hu
  | v :: vs, L, D, hD, hv, h, y, hy, u, hu => by
    rw [setAt_cons] at hy
    refine ind_set vs (stepS nn v L) (fun u => D u ∨ u = v) (fun u hu => ?_) (fun w hw => hv w (List.mem_cons_of_mem _ hw)) (fun x hx u hu => ?_) y hy u ?_
    · rcases hu with hu | rfl
      · exact hD u hu
      · exact hv _ List.mem_cons_self
    · obtain ⟨z, hz, b, rfl⟩ := stepS_hT.1 hx
      rcases hu with hu | rfl
      · exact ind_keep (hD u hu) (hv v List.mem_cons_self) b (h z hz u hu)
      · exact ind_step (hv _ List.mem_cons_self) b z
    · rcases hu with hu | hu
      · exact .inl (.inl hu)
      · rcases List.mem_cons.1 hu with rfl | hu
        · exact .inl (.inr rfl)
        · exact .inr hu
/-- the point of the variables below, by their number -/
def pt : List Nat → Nat → Nat
  | [], _ => 0
  | u :: us, j => (if j % 2 = 1 then 2 ^ u else 0) ||| pt us (j / 2)
def ix : List Nat → Nat → Nat
  | [], _ => 0
  | u :: us, i => (if i.testBit u then 1 else 0) + 2 * ix us i
theorem ix_lt : ∀ (us : List Nat) (i : Nat), ix us i < 2 ^ us.length
  | [], _ => by simp [ix]
  | u :: us, i => by
    have := ix_lt us i
    rw [List.length_cons, Nat.pow_succ]
    unfold ix
    split <;> omega
theorem pt_ix : ∀ (us : List Nat) (i w : Nat), (pt us (ix us i)).testBit w = (decide (w ∈ us) && i.testBit w)
  | [], i, w => by simp [pt]
  | u :: us, i, w => by
    have hc : ix (u :: us) i = (if i.testBit u then 1 else 0) + 2 * ix us i := rfl
    have h1 : ix (u :: us) i % 2 = if i.testBit u then 1 else 0 := by rw [hc]; split <;> omega
    have h2 : ix (u :: us) i / 2 = ix us i := by rw [hc]; split <;> omega
    unfold pt
    rw [h1, h2, Nat.testBit_or, pt_ix us i w]
    by_cases hw : w = u
    · subst hw
      cases h : i.testBit w <;> simp
    · have hw' : ¬ u = w := fun h => hw h.symm
      cases h : i.testBit u <;> simp [hw, hw']
theorem pt_lt {nn : Nat} : ∀ (us : List Nat) (j : Nat), (∀ u ∈ us, u < nn) → pt us j < 2 ^ nn
  | [], _, _ => Nat.two_pow_pos _
  | u :: us, j, h => by
    unfold pt
    refine Nat.or_lt_two_pow ?_ (pt_lt us _ (fun w hw => h w (List.mem_cons_of_mem _ hw)))
    split
    · exact Nat.pow_lt_pow_right (by omega) (h u List.mem_cons_self)
    · exact Nat.two_pow_pos _
def clr : List Nat → Nat → Nat
  | [], i => i
  | u :: ds, i => clr ds (wth i u false)
theorem clr_bit : ∀ (ds : List Nat) (i w : Nat), (clr ds i).testBit w = (!decide (w ∈ ds) && i.testBit w)
  | [], i, w => by simp [clr]
  | u :: ds, i, w => by
    unfold clr
    rw [clr_bit ds, wth_bit]
    by_cases hw : w = u
    · subst hw; simp
    · simp [hw]
theorem clr_vb {nn : Nat} {x : List Nat} : ∀ (ds : List Nat) (i : Nat), i < 2 ^ nn → (∀ u ∈ ds, u < nn ∧ Ind nn u x) → vb x (clr ds i) = vb x i
  | [], _, _, _ => rfl
  | u :: ds, i, hi, h => by
    unfold clr
    have h1 := h u List.mem_cons_self
    rw [clr_vb ds _ (wth_lt hi h1.1) (fun w hw => h w (List.mem_cons_of_mem _ hw)), h1.2 i hi]
/-- what hangs on the variables us alone is told by its values at their points -/
theorem vb_pt {nn : Nat} {ds us : List Nat} {x : List Nat} (hd : ∀ u ∈ ds, u < nn ∧ Ind nn u x) (hsplit : ∀ w, w < nn → (w ∈ us ↔ ¬ w ∈ ds)) {i : Nat} (hi : i < 2 ^ nn) : vb x i = vb x (pt us (ix us i)) := by
  rw [← clr_vb ds i hi hd]
  congr 1
  refine Nat.eq_of_testBit_eq fun w => ?_
  rw [clr_bit, pt_ix]
  rcases Nat.lt_or_ge w nn with hw | hw
  · have := hsplit w hw
    by_cases h : w ∈ ds
    · simp [h, this]
    · simp [h, this.2 h]
  · rw [Nat.testBit_lt_two_pow (Nat.lt_of_lt_of_le hi (Nat.pow_le_pow_right (by omega) hw))]
    simp
theorem nodup_len {N : Nat} {l : List Nat} (hn : l.Nodup) (h : ∀ x ∈ l, x < N) : l.length ≤ N := by
  rcases Nat.lt_or_ge N l.length with hl | hl
  · have := (sub_perm l (List.range N) hn (fun x hx => List.mem_range.2 (h x hx)) (by rw [List.length_range]; omega)).length_eq
    rw [List.length_range] at this
    omega
  · exact hl
theorem map_nodup {α β : Type} {f : α → β} : ∀ {l : List α}, l.Nodup → (∀ x ∈ l, ∀ y ∈ l, f x = f y → x = y) → (l.map f).Nodup
  | [], _, _ => List.nodup_nil
  | a :: l, hn, h => by
    obtain ⟨h1, h2⟩ := List.nodup_cons.1 hn
    rw [List.map_cons, List.nodup_cons]
    refine ⟨fun hm => ?_, map_nodup h2 (fun x hx y hy => h x (List.mem_cons_of_mem _ hx) y (List.mem_cons_of_mem _ hy))⟩
    obtain ⟨b, hb, he⟩ := List.mem_map.1 hm
    have := h b (List.mem_cons_of_mem _ hb) a List.mem_cons_self he
    exact h1 (this ▸ hb)
/-- a function's values at the points, as one number -/
def cdN (us : List Nat) (x : List Nat) : Nat := bsum (fun j => vb x (pt us j)) (2 ^ us.length)
theorem cdN_lt (us x : List Nat) : cdN us x < 2 ^ 2 ^ us.length := bsum_lt _ _
theorem cdN_eq {nn : Nat} {ds us : List Nat} {x y : List Nat} (hx : ∀ u ∈ ds, u < nn ∧ Ind nn u x) (hy : ∀ u ∈ ds, u < nn ∧ Ind nn u y) (hsplit : ∀ w, w < nn → (w ∈ us ↔ ¬ w ∈ ds)) (h : cdN us x = cdN us y) : ∀ i, i < 2 ^ nn → vb x i = vb y i := fun i hi => by
  rw [vb_pt hx hsplit hi, vb_pt hy hsplit hi]
  have h1 := congrArg (fun z : Nat => z.testBit (ix us i)) h
  simp only [cdN, bsum_bit] at h1
  rw [decide_eq_true (ix_lt us i), Bool.true_and, Bool.true_and] at h1
  exact h1
theorem cnt_bound {nn v : Nat} {L : List (List Nat)} {ds us : List Nat} (hL : L.Nodup) (hf : ∀ x ∈ L, FormN nn x) (hs : ∀ x ∈ L, Small x) (hv : v < nn) (hd : ∀ x ∈ L, ∀ u ∈ ds, u < nn ∧ Ind nn u x) (hsplit : ∀ w, w < nn → (w ∈ us ↔ ¬ w ∈ v :: ds)) :
    cntL nn v L + 2 ^ 2 ^ us.length ≤ 2 ^ 2 ^ (us.length + 1) := by
  obtain ⟨M, hM⟩ : ∃ M, M = 2 ^ 2 ^ us.length := ⟨_, rfl⟩
  have hMM : 2 ^ 2 ^ (us.length + 1) = M * M := by rw [hM, Nat.pow_succ, Nat.mul_two, Nat.pow_add]
  rw [hMM, ← hM]
  have hc : ∀ x, cdN us x < M := fun x => by rw [hM]; exact cdN_lt us x
  have hdT : ∀ b, ∀ x ∈ L, ∀ u ∈ v :: ds, u < nn ∧ Ind nn u (hT nn v b x) := fun b x hx u hu => by
    rcases List.mem_cons.1 hu with rfl | hu
    · exact ⟨hv, ind_step hv b x⟩
    · exact ⟨(hd x hx u hu).1, ind_keep (hd x hx u hu).1 hv b (hd x hx u hu).2⟩
  obtain ⟨K, hK⟩ : ∃ K, K = L.filter (fun x => decide (loT nn v x ≠ hiT nn v x)) := ⟨_, rfl⟩
  have hKm : ∀ x ∈ K, x ∈ L ∧ loT nn v x ≠ hiT nn v x := fun x hx => by
    rw [hK, List.mem_filter, decide_eq_true_eq] at hx
    exact hx
  have hKn : K.Nodup := by rw [hK]; exact hL.filter _
  have hcnt : cntL nn v L = K.length := by rw [hK]; rfl
  obtain ⟨ph, hph⟩ : ∃ ph : List Nat → Nat, ∀ x, ph x = cdN us (hT nn v false x) * M + cdN us (hT nn v true x) := ⟨fun x => cdN us (hT nn v false x) * M + cdN us (hT nn v true x), fun _ => rfl⟩
  have hdm : ∀ p q p' q', p * M + q = p' * M + q' → q < M → q' < M → p = p' ∧ q = q' := fun p q p' q' h h1 h2 => by
    have e1 : (p * M + q) / M = p := by rw [Nat.mul_comm, Nat.mul_add_div (by omega), Nat.div_eq_of_lt h1, Nat.add_zero]
    have e2 : (p' * M + q') / M = p' := by rw [Nat.mul_comm, Nat.mul_add_div (by omega), Nat.div_eq_of_lt h2, Nat.add_zero]
    have e3 : p = p' := by rw [← e1, ← e2, h]
    subst e3
    exact ⟨rfl, by omega⟩
  have hinj : ∀ x ∈ K, ∀ y ∈ K, ph x = ph y → x = y := fun x hx y hy h => by
    rw [hph, hph] at h
    obtain ⟨h1, h2⟩ := hdm _ _ _ _ h (hc _) (hc _)
    have hxl := (hKm x hx).1
    have hyl := (hKm y hy).1
    have e1 := cdN_eq (hdT false x hxl) (hdT false y hyl) hsplit h1
    have e2 := cdN_eq (hdT true x hxl) (hdT true y hyl) hsplit h2
    rw [← tab_vb (hf x hxl) (hs x hxl), ← tab_vb (hf y hyl) (hs y hyl)]
    refine tab_congr fun i hi => ?_
    have e : ∀ z : List Nat, vb z i = vb (hT nn v (i.testBit v) z) i := fun z => by rw [hT_vb _ _ hi, wth_self]
    rw [e x, e y]
    cases i.testBit v
    · exact e1 i hi
    · exact e2 i hi
  have hlen : ((K.map ph) ++ (List.range M).map (fun p => p * M + p)).length ≤ M * M := by
    refine nodup_len (List.nodup_append.2 ⟨map_nodup hKn hinj, map_nodup List.nodup_range (fun p hp q hq h => ?_), fun a ha b hb hab => ?_⟩) (fun z hz => ?_)
    · exact (hdm p p q q h (List.mem_range.1 hp) (List.mem_range.1 hq)).1
    · obtain ⟨x, hx, rfl⟩ := List.mem_map.1 ha
      obtain ⟨p, hp, rfl⟩ := List.mem_map.1 hb
      rw [hph] at hab
      obtain ⟨h1, h2⟩ := hdm _ _ _ _ hab (hc _) (List.mem_range.1 hp)
      have hxl := (hKm x hx).1
      refine (hKm x hx).2 (tab_congr fun i hi => ?_)
      have := cdN_eq (hdT false x hxl) (hdT true x hxl) hsplit (h1.trans h2.symm) i hi
      rw [hT_vb _ _ hi, hT_vb _ _ hi] at this
      exact this
    · have hb : ∀ p q, p < M → q < M → p * M + q < M * M := fun p q h1 h2 => by
        have : (p + 1) * M ≤ M * M := Nat.mul_le_mul_right M h1
        rw [Nat.add_mul, Nat.one_mul] at this
        omega
      rcases List.mem_append.1 hz with hz | hz
      · obtain ⟨x, _, rfl⟩ := List.mem_map.1 hz
        rw [hph]
        exact hb _ _ (hc _) (hc _)
      · obtain ⟨p, hp, rfl⟩ := List.mem_map.1 hz
        exact hb p p (List.mem_range.1 hp) (List.mem_range.1 hp)
  rw [List.length_append, List.length_map, List.length_map, List.length_range] at hlen
  rw [hcnt]
  exact hlen
end Go.Proofs.Ytakepdkokjecoaa


/- Permutations: Swapped of the program; Turned and DocSwapped of the reference. -/
namespace Go.Proofs.Ytakepdkokjecoaa
open Go.RowKit Go.Tk

theorem swp_get (p : List Int) (l : Nat) {a b : Int} (ha : p[l]? = some a) (hb : p[l + 1]? = some b) : swp p l = (p.set l b).set (l + 1) a := by
  unfold swp
  simp [List.getD_eq_getElem?_getD, ha, hb]
/-- what Swapped answers -/
def swE (p : List Int) (l : Int) : Int := if l < 0 ∨ (p.length : Int) - 2 < l then 1 else chk p
def swL (p : List Int) (l : Int) : List Int := if swE p l = 0 then swp p l.toNat else []

set_option maxHeartbeats 2000000 in
theorem turned_any (A : Option Addr) (n C : Nat) (xs : List Int) (l : Nat) (w : World) (h : IL w A n xs) (hr : n * 8 ≤ 140737488351232) (hl : l + 2 ≤ n) :
    Calls Try.prog 21 #[.slice A n C, .int .i64 l] w (RetL w (swp xs l)) := by
  obtain rfl := h.len
  have H := Lib.hid h
  clear h
  go_enter Try.func21, Try.ntmps21
  go_upto_region 2 with fail
  refine wp_read 2 ?_
  simp only [List.take_succ_cons, List.take_zero, List.drop_succ_cons, List.drop_zero]
  repeat (any_goals (first | go_big_quiet_step (fail) | quiet_step (fail)))
  refine wpQuiet_nil ?_
  refine wpList_plain rfl fun K hK => ?_
  refine Own.append_many (.tmp 6) (.tmp 7) _ rfl Try.underlying23 info_int rfl (by omega) rfl (Own.nil w _ _ _) (fun _ => rfl) xs A C rfl (fun hne => IL.src H.out hne) (by simp [icell, Value.oneCell']) (by simp [maxLen] <;> omega) (by simp <;> omega) ?_
  intro A2 C2 w2 hO hg hat
  refine hK _ _ ?_
  clear hK K
  simp only [List.nil_append] at hO ⊢
  have hs12 := Same.app (Frm.refl _ w) (Frm.refl _ _) hg (fresh_none _)
  obtain ⟨a, ha⟩ : ∃ a, xs[l]? = some a := ⟨_, List.getElem?_eq_getElem (by omega)⟩
  obtain ⟨b, hb⟩ : ∃ b, xs[l + 1]? = some b := ⟨_, List.getElem?_eq_getElem (by omega)⟩
  obtain ⟨sb, rfl, hsb, ca⟩ := hO.at1 (c := fun x => .int .i64 x) ha
  obtain ⟨sb', hsb', _, cb⟩ := hO.at1 (c := fun x => .int .i64 x) hb
  injection hsb' with hsb'
  injection hsb' with hsb'
  subst hsb'
  have fa := Own.free hO l
  have fb := Own.free hO (l + 1)
  have hsb0 : w.heap.size ≤ sb := by
    rcases hat sb ⟨_, rfl, rfl⟩ with ⟨a, h, _⟩ | h
    · cases h
    · omega
  have HO := Lib.hid hO
  have HS := Lib.hid hs12
  have HA := Lib.hid ha
  have HB := Lib.hid hb
  clear hO hs12 ha hb hg hat
  have hw0 : IntKind.i64.wrap ((l : Int) + 1) = l + 1 := IntWalk.i64_in _ (by omega)
  have hw1 : (0 : Int) ≤ (l : Int) + 1 := by omega
  have hw2 : ((l : Int) + 1).toNat = l + 1 := by omega
  have hw3 : (l : Int) + 1 < xs.length := by omega
  have hw4 : (l : Int) < xs.length := by omega
  have hw5 : (0 : Int) ≤ (l : Int) := by omega
  go_upto_region 3 with fail
  go_region
  have h1 := Own.put1 (c := fun x => .int .i64 x) HO.out (i := l) (by omega) b
  have h2 := Own.put1 (c := fun x => .int .i64 x) h1 (i := l + 1) (by rw [List.length_set]; omega) a
  rw [← swp_get xs l HA.out HB.out] at h2
  have h3 : OwnI ((w2.setCell ⟨sb, l, none⟩ (.int .i64 b)).setCell ⟨sb, l + 1, none⟩ (.int .i64 a)).drew 3 (some ⟨sb, 0, none⟩) xs.length C2 (swp xs l) := Own.frm h2 ((Frm.refl (fun _ => False) _).drew) (fun _ _ => id)
  have hs3 : Same w ((w2.setCell ⟨sb, l, none⟩ (.int .i64 b)).setCell ⟨sb, l + 1, none⟩ (.int .i64 a)).drew := ((HS.out.setNew _ _ hsb0).setNew _ _ hsb0).drew
  generalize ((w2.setCell ⟨sb, l, none⟩ (.int .i64 b)).setCell ⟨sb, l + 1, none⟩ (.int .i64 a)).drew = w3 at h3 hs3 ⊢
  have HO3 := Lib.hid h3
  have HS3 := Lib.hid hs3
  clear h1 h2 h3 hs3 ca cb fa fb hw0 hw1 hw2 hw3 hw4 hw5
  go_wp2
  go_ret
  exact ⟨some ⟨sb, 0, none⟩, C2, by rw [swp_len]; rfl, by rw [swp_len]; exact HO3.out, fresh_some hsb0, HS3.out⟩
end Go.Proofs.Ytakepdkokjecoaa


/- Permutations: Identity, Inverse, Compose, Changes of both. -/
namespace Go.Proofs.Ytakepdkokjecoaa
open Go.RowKit Go.Tk

/-- f at the first k places, noughts behind them -/
def fillL (f : Nat → Int) (n k : Nat) : List Int := (List.range n).map fun j : Nat => if j < k then f j else 0
theorem fillL_len (f : Nat → Int) (n k : Nat) : (fillL f n k).length = n := by simp [fillL]
theorem fillL_zero (f : Nat → Int) (n : Nat) : fillL f n 0 = List.replicate n 0 := by
  apply List.ext_getElem?
  intro j
  rcases Nat.lt_or_ge j n with h | h
  · simp [fillL, h]
  · rw [List.getElem?_eq_none (by rw [fillL_len]; exact h), List.getElem?_eq_none (by simpa using h)]
theorem fillL_full (f : Nat → Int) {n : Nat} {ys : List Int} (hl : ys.length = n) (h : ∀ j, j < n → ys[j]? = some (f j)) : fillL f n n = ys := by
  apply List.ext_getElem?
  intro j
  rcases Nat.lt_or_ge j n with hj | hj
  · rw [h j hj]; simp [fillL, hj]
  · rw [List.getElem?_eq_none (by rw [fillL_len]; exact hj), List.getElem?_eq_none (by omega)]
theorem fillL_set (f : Nat → Int) {n k : Nat} : (fillL f n k).set k (f k) = fillL f n (k + 1) := by
  apply List.ext_getElem?
  intro j
  rcases Nat.lt_or_ge j n with hj | hj
  · rw [List.getElem?_set, fillL_len]
    simp only [fillL, List.getElem?_map, List.getElem?_range hj, Option.map_some]
    split
    · rename_i he; subst he; simp <;> omega
    · rename_i he
      congr 1
      by_cases h : j < k
      · rw [if_pos h, if_pos (by omega)]
      · rw [if_neg h, if_neg (by omega)]
  · rw [List.getElem?_eq_none (by simp [fillL_len, hj]), List.getElem?_eq_none (by rw [fillL_len]; exact hj)]
/-- the places of the first k things -/
def invP (p : List Int) (k : Nat) : List Int := (List.range p.length).map fun j : Nat => if (j : Int) ∈ p.take k then plc p j else 0
theorem invP_len (p : List Int) (k : Nat) : (invP p k).length = p.length := by simp [invP]
theorem invP_zero (p : List Int) : invP p 0 = List.replicate p.length 0 := by
  apply List.ext_getElem?
  intro j
  rcases Nat.lt_or_ge j p.length with h | h
  · simp [invP, h]
  · rw [List.getElem?_eq_none (by rw [invP_len]; exact h), List.getElem?_eq_none (by simpa using h)]
theorem invL_get (p : List Int) {j : Nat} (h : j < p.length) : (invL p)[j]? = some (plc p j) := by simp [invL, rng_get h]
theorem invP_full {p : List Int} (h : IsPerm p) : invP p p.length = invL p := by
  apply List.ext_getElem?
  intro j
  rcases Nat.lt_or_ge j p.length with hj | hj
  · rw [invL_get p hj]
    simp [invP, hj, h.mem hj]
  · rw [List.getElem?_eq_none (by rw [invP_len]; exact hj), List.getElem?_eq_none (by rw [invL_len]; exact hj)]
theorem invP_set {p : List Int} (hn : p.Nodup) {k x : Nat} (h : p[k]? = some (x : Int)) : (invP p k).set x (k : Int) = invP p (k + 1) := by
  apply List.ext_getElem?
  intro j
  rcases Nat.lt_or_ge j p.length with hj | hj
  · rw [List.getElem?_set, invP_len]
    simp only [invP, List.getElem?_map, List.getElem?_range hj, Option.map_some, take_snoc h, List.mem_append, List.mem_singleton]
    split
    · rename_i he; subst he; simp [plc_get hn h] <;> omega
    · rename_i he
      have : ¬ ((j : Int) = (x : Int)) := by omega
      simp [this]
  · rw [List.getElem?_eq_none (by simp [invP_len, hj]), List.getElem?_eq_none (by rw [invP_len]; exact hj)]

def inE (p : List Int) : Int := chk p
def inL (p : List Int) : List Int := if chk p = 0 then invL p else []
end Go.Proofs.Ytakepdkokjecoaa


/- Permutations: Inversions of both. -/
namespace Go.Proofs.Ytakepdkokjecoaa
open Go.RowKit Go.Tk

theorem invC_le (p : List Int) : invC p ≤ p.length * p.length := by
  induction p with
  | nil => simp [invC]
  | cons x p ih =>
    have := List.countP_le_length (p := fun y => decide (x > y)) (l := p)
    simp only [invC, List.length_cons]
    rw [Nat.add_mul, Nat.mul_add]
    omega
theorem invC_le64 {p : List Int} (h : p.length ≤ 64) : invC p ≤ 4096 := Nat.le_trans (invC_le p) (Nat.mul_le_mul h h)
def incN (xs : List Int) : Nat := if chk xs = 0 then invC xs else 0
theorem countP_snoc {α : Type} (f : α → Bool) (l : List α) (x : α) : (l ++ [x]).countP f = l.countP f + if f x then 1 else 0 := by
  rw [List.countP_append, List.countP_cons, List.countP_nil, Nat.zero_add]

theorem drop_cons {α : Type} {l : List α} {k : Nat} {x : α} (h : l[k]? = some x) : l.drop k = x :: l.drop (k + 1) := by
  have hl := lt_of_get h
  rw [List.getElem?_eq_getElem hl] at h
  injection h with h
  rw [List.drop_eq_getElem_cons hl, h]
end Go.Proofs.Ytakepdkokjecoaa


/- Permutations: Compose, Identity, Changes of both. -/
namespace Go.Proofs.Ytakepdkokjecoaa
open Go.RowKit Go.Tk

theorem compL_len (p q : List Int) : (compL p q).length = q.length := by simp [compL]
theorem compL_get (p q : List Int) {j : Nat} {x : Int} (h : q[j]? = some x) : (compL p q)[j]? = some (p.getD x.toNat 0) := by simp [compL, h]
def coL (p q : List Int) : List Int := if both p q = 0 then compL p q else []
end Go.Proofs.Ytakepdkokjecoaa


/- Permutations: Identity, Changes of both. -/
namespace Go.Proofs.Ytakepdkokjecoaa
open Go.RowKit Go.Tk

/-- what Identity answers -/
def idE (n : Int) : Int := if n < 0 ∨ 64 < n then 1 else 0
def idR (n : Int) : List Int := if n < 0 ∨ 64 < n then [] else rng n.toNat
set_option maxHeartbeats 1000000 in
theorem docIdentity_any (n : Int) (w : World) : Calls Try.prog 24 #[.int .i64 n] w (RetE w (idR n) (idE n)) := by
  by_cases h0 : n < 0
  · have he : idE n = 1 := by unfold idE; rw [if_pos (.inl h0)]
    have hy : idR n = [] := by unfold idR; rw [if_pos (.inl h0)]
    rw [he, hy]
    clear he hy
    go_enter Try.func24, Try.ntmps24
    go_wp2
    go_ret2
    exact ⟨none, 0, rfl, NewL.nil w⟩
  · by_cases h1 : n > 64
    · have he : idE n = 1 := by unfold idE; rw [if_pos (.inr h1)]
      have hy : idR n = [] := by unfold idR; rw [if_pos (.inr h1)]
      rw [he, hy]
      clear he hy
      go_enter Try.func24, Try.ntmps24
      go_wp2
      go_ret2
      exact ⟨none, 0, rfl, NewL.nil w⟩
    · have he : idE n = 0 := by unfold idE; rw [if_neg (by omega)]
      have hy : idR n = rng n.toNat := by unfold idR; rw [if_neg (by omega)]
      rw [he, hy]
      clear he hy
      obtain ⟨m, rfl⟩ : ∃ m : Nat, n = m := ⟨n.toNat, by omega⟩
      have hm : m ≤ 64 := by omega
      rw [show ((m : Nat) : Int).toNat = m from rfl]
      go_enter Try.func24, Try.ntmps24
      go_wp2
      go_loopw [4, 5] (fun s i wr => ∃ (k : Nat) (A2 : Option Addr) (C2 : Nat), k ≤ m ∧ i = .int .i64 k ∧ s = .slice A2 k C2 ∧ Same w wr ∧ Fresh w.heap.size A2 ∧ OwnI wr 3 A2 k C2 ((rng m).take k)) (fun _ i _ => m - (intOf i).toNat)
      case atStart => exact ⟨0, none, 0, by omega, rfl, rfl, Frm.refl _ _, fresh_none _, Own.nil _ _ _ _⟩
      case round =>
        obtain ⟨k, A2, C2, hk, rfl, rfl, hs, hf, ho⟩ := hrel
        have HR := Lib.hid ho
        have HF := Lib.hid hf
        have HS := Lib.hid hs
        have hlk : ((rng m).take k).length = k := by rw [List.length_take, rng_len]; omega
        have HLK := Lib.hid hlk
        clear hs ho hf hlk
        by_cases hlt : k < m
        · have hi1 : (k : Int) < m := by omega
          have hnx := take_snoc (rng_get hlt)
          have HNX := Lib.hid hnx
          clear hnx
          go_upto_region 7 with fail
          refine wp_read 2 ?_
          simp only [List.take_succ_cons, List.take_zero, List.drop_succ_cons, List.drop_zero]
          repeat (any_goals (first | go_big_quiet_step (fail) | quiet_step (fail)))
          refine wpQuiet_nil ?_
          refine wpList_plain rfl fun K hK => ?_
          go_simp
          refine hK _ _ ?_
          clear hK K
          refine list_world fun wa hwa => ?_
          have hN := Blk.new wr 3 #[.int .i64 (k : Int)]
          have hsa : Same wr wa := by rw [hwa]; exact (Frm.refl _ _).alloc _
          rw [← hwa] at hN
          clear hwa
          refine Own.append_list (f := icell) rfl (.tmp 17) (.tmp 19) _ rfl Try.underlying23 info_int rfl (by omega) rfl (Own.frm (HR.out) hsa (fun _ _ => id)) (fun _ => rfl) ((k : Int)) wr.heap.size 1 rfl hN (by simp [Value.oneCell', icell]) (by rw [HLK.out]; simp [maxLen] <;> omega) (by rw [HLK.out]; omega) ?_
          intro gg cap wb hOb hgb hat
          have HOb := Lib.hid hOb
          have HSb := Lib.hid (Same.app (HS.out) hsa hgb (HF.out))
          have HFb := Lib.hid (fresh_app (HS.out) hsa (HF.out) hat)
          clear hOb hgb hat hsa hN
          go_wp2
          go_roundw
          case rel => exact ⟨k + 1, _, cap, by omega, by go_num, rfl, HSb.out, HFb.out, by rw [HNX.out]; exact HOb.out⟩
          case measure => simp [intOf] <;> omega
        · obtain rfl : k = m := by omega
          go_wp2
          go_ret2
          refine ⟨A2, C2, by rw [rng_len]; rfl, ?_, HF.out, HS.out⟩
          have := HR.out
          rw [List.take_of_length_le (by rw [rng_len]; exact Nat.le_refl _)] at this
          rwa [rng_len]
/-- the exchanges that go through all orders -/
def chL (k : Int) : List Int := if k = 2 then [0] else if k = 3 then [1, 0, 1, 0, 1] else if k = 4 then [2, 1, 0, 2, 0, 1, 2, 0, 2, 1, 0, 2, 0, 1, 2, 0, 2, 1, 0, 2, 0, 1, 2] else []
def chE (k : Int) : Int := if k = 2 ∨ k = 3 ∨ k = 4 then 0 else 1
theorem lit_new (w : World) (ys : List Int) (hm : ys.length ≤ 1000) {cs : Array Value} (hcs : cs = (ys.flatMap icell).toArray) : NewL w ys (some ⟨w.heap.size, 0, none⟩) ys.length (w.alloc (.cells cs 3)) :=
  ⟨Own.lit w 3 icell (fun _ => rfl) ys (show ys.length ≤ 9223372036854775807 by omega) hcs, fresh_some (Nat.le_refl _), (Frm.refl _ _).alloc _⟩
end Go.Proofs.Ytakepdkokjecoaa


/- Permutations: Path of both. -/
namespace Go.Proofs.Ytakepdkokjecoaa
open Go.RowKit Go.Tk

theorem plc_lt (p : List Int) (x : Int) : plc p x < p.length := by
  unfold plc
  split <;> omega
theorem plc_ge (p : List Int) (x : Int) : -1 ≤ plc p x := by unfold plc; split <;> omega
theorem pst_path_le (p q : List Int) : ∀ k, (pst p q k).2.length ≤ k * p.length
  | 0 => by simp [pst]
  | k + 1 => by
    rw [pst, bub_path, Nat.add_mul, Nat.one_mul]
    have := pst_path_le p q k
    have h1 := plc_lt (pst p q k).1 (q.getD k 0)
    rw [pst_len] at h1
    omega
theorem pst_path64 {p q : List Int} {k : Nat} (h : p.length ≤ 64) (hk : k ≤ 64) : (pst p q k).2.length ≤ 4096 := Nat.le_trans (pst_path_le p q k) (Nat.mul_le_mul hk h)
def paL (p q : List Int) : List Int := if both p q = 0 then pathL p q else []

end Go.Proofs.Ytakepdkokjecoaa


/- Permutations: the reference's DocPath. -/
namespace Go.Tk
theorem Sl.frm {w w' : World} {S : Nat → Prop} {m : Nat} {α : Type} {f : α → List Value} {A : Option Addr} {n : Nat} {xs : List α} (h : Sl w m f A n xs) (hf : Frm S w w') (hs : 0 < xs.length → ∀ b, rowOf A b → ¬ S b) : Sl w' m f A n xs :=
  ⟨h.len, fun i x hi => by
    obtain ⟨b, off, h1, h2, h3⟩ := h.get i x hi
    have hl := lt_of_get hi
    exact ⟨b, off, h1, Nat.lt_of_lt_of_le h2 hf.size, fun j hj => by rw [← h3 j hj]; exact hf.cell (p := ⟨b, _, none⟩) h2 (hs (by omega) b ⟨_, h1, rfl⟩)⟩⟩
theorem Sl.row {w : World} {m : Nat} {α : Type} {f : α → List Value} {A : Option Addr} {n : Nat} {xs : List α} (h : Sl w m f A n xs) (h0 : 0 < xs.length) : ∀ b, rowOf A b → b < w.heap.size := by
  rintro b ⟨a, ha, rfl⟩
  obtain ⟨b, off, h1, h2, h3⟩ := h.get 0 _ (List.getElem?_eq_getElem h0)
  rw [h1] at ha
  injection ha with ha
  subst ha
  exact h2
end Go.Tk
namespace Go.Proofs.Ytakepdkokjecoaa
open Go.RowKit Go.Tk

end Go.Proofs.Ytakepdkokjecoaa


/- Permutations: Same of the reference; Rank of the program. -/
namespace Go.Proofs.Ytakepdkokjecoaa
open Go.RowKit Go.Tk

set_option maxHeartbeats 1000000 in
theorem same_any (A B : Option Addr) (n m C D : Nat) (xs ys : List Int) (w : World) (h : IL w A n xs) (h2 : IL w B m ys) (hr : n * 8 ≤ 140737488351232) (hr2 : m * 8 ≤ 140737488351232) :
    Calls Try.prog 16 #[.slice A n C, .slice B m D] w fun e w' => e = .returned (.bool (decide (xs = ys))) ∧ Same w w' := by
  obtain rfl := h.len
  obtain rfl := h2.len
  have H := Lib.hid h
  have H2 := Lib.hid h2
  clear h h2
  by_cases hl : xs.length = ys.length
  · have hl1 : xs.length ≤ ys.length := by omega
    have hl2 : ys.length ≤ xs.length := by omega
    have hl' : ((xs.length : Int) != (ys.length : Int)) = false := by simp [hl]
    have HL := Lib.hid hl
    clear hl
    go_enter Try.func16, Try.ntmps16
    go_wp2
    go_loopw [5] (fun i wr => ∃ k : Nat, k ≤ xs.length ∧ i = .int .i64 k ∧ xs.take k = ys.take k ∧ Same w wr) (fun i _ => xs.length - (intOf i).toNat)
    case atStart => exact ⟨0, by omega, rfl, rfl, Frm.refl _ _⟩
    case round =>
      obtain ⟨k, hk, rfl, he, hs⟩ := hrel
      by_cases hlt : k < xs.length
      · obtain ⟨x, hx⟩ : ∃ x, xs[k]? = some x := ⟨_, List.getElem?_eq_getElem hlt⟩
        obtain ⟨y, hy⟩ : ∃ y, ys[k]? = some y := ⟨_, List.getElem?_eq_getElem (by omega)⟩
        obtain ⟨b, off, rfl, hb, hc⟩ := (Sl.same H.out hs).at1 hx
        obtain ⟨b2, off2, rfl, hb2, hc2⟩ := (Sl.same H2.out hs).at1 hy
        have hi0 : (0 : Int) ≤ k := by omega
        have hi1 : (k : Int) < xs.length := by omega
        have hi2 : (k : Int) < ys.length := by omega
        have HX := Lib.hid hx
        have HY := Lib.hid hy
        have HE := Lib.hid he
        have HS := Lib.hid hs
        clear hx hy he hs
        by_cases hxy : x = y
        · subst hxy
          go_wp2
          refine wp_quiet (by kernel_rfl) (by kernel_rfl) ?_
          repeat (any_goals (first | go_big_quiet_step (fail) | quiet_step (fail)))
          refine wpQuiet_nil ?_
          rintro _ ⟨q, rfl⟩
          have HS2 := Lib.hid (HS.out.trans (more_same _ q) (fun _ _ h => h))
          go_wp2
          go_roundw
          case rel => exact ⟨k + 1, by omega, by go_num, by rw [take_snoc HX.out, take_snoc HY.out, HE.out], HS2.out⟩
          case measure => simp [intOf] <;> omega
        · have hne : (x != y) = true := by simpa using hxy
          have hfin : decide (xs = ys) = false := by
            rw [decide_eq_false_iff_not]
            rintro rfl
            exact hxy (Option.some.inj (HX.out.symm.trans HY.out))
          have HFIN := Lib.hid hfin
          clear hxy hfin
          go_wp2
          refine wp_quiet (by kernel_rfl) (by kernel_rfl) ?_
          repeat (any_goals (first | go_big_quiet_step (fail) | quiet_step (fail)))
          refine wpQuiet_nil ?_
          rintro _ ⟨q, rfl⟩
          have HS2 := Lib.hid (HS.out.trans (more_same _ q) (fun _ _ h => h))
          go_wp2
          go_ret
          exact ⟨ret_bool HFIN.out.symm, HS2.out⟩
      · obtain rfl : k = xs.length := by omega
        have hfin : decide (xs = ys) = true := by
          rw [decide_eq_true_iff]
          rw [List.take_of_length_le (Nat.le_refl _), List.take_of_length_le (by omega)] at he
          exact he
        have HFIN := Lib.hid hfin
        clear he hfin
        go_wp2
        go_ret
        exact ⟨ret_bool HFIN.out.symm, hs⟩
  · have hl' : ((xs.length : Int) != (ys.length : Int)) = true := by simp <;> omega
    have hfin : decide (xs = ys) = false := by
      rw [decide_eq_false_iff_not]
      rintro rfl
      exact hl rfl
    have HFIN := Lib.hid hfin
    clear hl hfin
    go_enter Try.func16, Try.ntmps16
    go_wp2
    go_ret
    exact ⟨ret_bool HFIN.out.symm, Frm.refl _ _⟩

/-- how many less ones follow the i-th -/
def lessC (xs : List Int) (i : Nat) : Nat := (xs.drop (i + 1)).countP (fun y => decide (y < xs.getD i 0))
def rkS (xs : List Int) : Nat → Nat
  | 0 => 0
  | k + 1 => rkS xs k * (xs.length - k) + lessC xs k
def fact : Nat → Nat
  | 0 => 1
  | n + 1 => (n + 1) * fact n
/-- n (n-1) .. (n-k+1) -/
def dsc (n : Nat) : Nat → Nat
  | 0 => 1
  | k + 1 => dsc n k * (n - k)
theorem fact_pos : ∀ n, 0 < fact n
  | 0 => by decide
  | n + 1 => by unfold fact; exact Nat.mul_pos (by omega) (fact_pos n)
theorem dsc_fact (n : Nat) : ∀ k, k ≤ n → dsc n k * fact (n - k) = fact n
  | 0, _ => by simp [dsc]
  | k + 1, h => by
    have ih := dsc_fact n k (by omega)
    rw [show n - k = (n - (k + 1)) + 1 by omega, fact] at ih
    rw [dsc, Nat.mul_assoc, show n - k = n - (k + 1) + 1 by omega]
    exact ih
theorem fact_le20 {n : Nat} (h : n ≤ 20) : fact n ≤ 2432902008176640000 := by
  have : ∀ n, n ≤ 20 → fact n ≤ 2432902008176640000 := by decide
  exact this n h
theorem dsc_le {n k : Nat} (h : n ≤ 20) (hk : k ≤ n) : dsc n k ≤ 2432902008176640000 := by
  have h1 := dsc_fact n k hk
  have h2 := Nat.le_mul_of_pos_right (dsc n k) (fact_pos (n - k))
  have h3 := fact_le20 h
  omega
theorem lessC_lt (xs : List Int) {k : Nat} (h : k < xs.length) : lessC xs k + k < xs.length := by
  unfold lessC
  have := List.countP_le_length (p := fun y => decide (y < xs.getD k 0)) (l := xs.drop (k + 1))
  rw [List.length_drop] at this
  omega
theorem rkS_lt (xs : List Int) : ∀ k, k ≤ xs.length → rkS xs k < dsc xs.length k
  | 0, _ => by simp [rkS, dsc]
  | k + 1, h => by
    have ih := rkS_lt xs k (by omega)
    have hl := lessC_lt xs (show k < xs.length by omega)
    rw [rkS, dsc]
    have h1 : (rkS xs k + 1) * (xs.length - k) ≤ dsc xs.length k * (xs.length - k) := Nat.mul_le_mul_right _ ih
    rw [Nat.add_mul, Nat.one_mul] at h1
    omega
def rkE (xs : List Int) : Int := if chk xs = 4 then 4 else if 20 < xs.length then 6 else 0
def rkV (xs : List Int) : Nat := if rkE xs = 0 then rkS xs xs.length else 0
end Go.Proofs.Ytakepdkokjecoaa


/- Permutations: Same, by another name (for texts beside the tables' Same). -/
namespace Go.Proofs.Ytakepdkokjecoaa
open Go.RowKit Go.Tk
theorem psame_any (A B : Option Addr) (n m C D : Nat) (xs ys : List Int) (w : World) (h : IL w A n xs) (h2 : IL w B m ys) (hr : n * 8 ≤ 140737488351232) (hr2 : m * 8 ≤ 140737488351232) :
    Calls Try.prog 16 #[.slice A n C, .slice B m D] w fun e w' => e = .returned (.bool (decide (xs = ys))) ∧ Same w w' := same_any A B n m C D xs ys w h h2 hr hr2
end Go.Proofs.Ytakepdkokjecoaa


/- Shape: one, awake. -/
namespace Go.Proofs.Ytakepdkokjecoaa
open Go.RowKit Go.Tk Go.Maps

theorem aw_p8 (A : Option Addr) (C : Nat) : (prL [⟨2, A, C, [8]⟩] [0, 1]).sum = 2 := by kernel_rfl
theorem aw_e8 (A : Option Addr) (C : Nat) : prE [⟨2, A, C, [8]⟩] [0, 1] = 0 := by kernel_rfl
theorem aw_p6 (A : Option Addr) (C : Nat) : prL [⟨2, A, C, [6]⟩] [0, 1] = [1, 2] := by kernel_rfl
theorem aw_e6 (A : Option Addr) (C : Nat) : prE [⟨2, A, C, [6]⟩] [0, 1] = 0 := by kernel_rfl
theorem aw_l6 (A : Option Addr) (C : Nat) : lvC [⟨2, A, C, [6]⟩] 1 1 = 2 := by kernel_rfl
theorem aw_le (A : Option Addr) (C : Nat) : lvE [⟨2, A, C, [6]⟩] 1 1 = 0 := by kernel_rfl
set_option maxHeartbeats 4000000 in
theorem one_any (x : Nat) (w : World) : Calls Try.prog 22 #[.int .u64 x] w (RetT w 2 [x]) := by
  go_enter Try.func22, Try.ntmps22
  go_upto_region 1 with fail
  refine wp_world fun w1 hw1 => ?_
  have hs1 : Same w w1 := by rw [hw1]; exact (Frm.refl _ _).alloc _
  have hBR : Blk w1 w.heap.size 37 #[.int .i64 0, .slice none 0 0] := by rw [hw1]; exact Blk.new _ _ _
  obtain ⟨R, hR⟩ : ∃ z, z = w.heap.size := ⟨_, rfl⟩
  have hwR : w.heap.size ≤ R := Nat.le_of_eq hR.symm
  rw [← hR] at hBR ⊢
  have cR0 : w1.cell? ⟨R, 0, none⟩ = some (.int .i64 0) := hBR.cell 0
  have cR1 : w1.cell? ⟨R, 1, none⟩ = some (.slice none 0 0) := hBR.cell 1
  have lR := hBR.lt
  have fR0 := hBR.free 0
  have fR1 := hBR.free 1
  have HBR := Lib.hid hBR
  have HS1 := Lib.hid hs1
  clear hw1 hR hBR hs1
  go_wp2
  refine wp_post fun w2 hw2 => ?_
  obtain ⟨G, hG⟩ : ∃ z, z = w1.heap.size := ⟨_, rfl⟩
  rw [← hG] at hw2 ⊢
  have hGR : G ≠ R := by omega
  obtain ⟨wa, hwa⟩ : ∃ z, z = (w1.setCell ⟨R, 0, none⟩ (.int .i64 2)).setCell ⟨R, 1, none⟩ (.slice (some ⟨G, 0, none⟩) 1 1) := ⟨_, rfl⟩
  rw [← hwa] at hw2
  have hsz : wa.heap.size = G := by rw [hwa, hG]; simp
  have hBa : Blk wa R 37 #[.int .i64 2, .slice (some ⟨G, 0, none⟩) 1 1] := by
    rw [hwa]
    have := (HBR.out.set 0 (.int .i64 2)).set 1 (.slice (some ⟨G, 0, none⟩) 1 1)
    simpa using this
  have hSa : Same w wa := by rw [hwa]; exact (HS1.out.setNew 0 _ hwR).setNew 1 _ hwR
  have hOE := Own.lit wa 30 ucell (fun _ => rfl) [x] (by simp [maxLen]) (cs := #[.int .u64 (x : Int)]) rfl
  rw [← hw2, hsz] at hOE
  have hBE : Blk w2 R 37 #[.int .i64 2, .slice (some ⟨G, 0, none⟩) 1 1] := by rw [hw2]; exact hBa.alloc _
  have hSE : Same w w2 := by rw [hw2]; exact hSa.alloc _
  have hGw : w.heap.size ≤ G := by rw [hG]; exact HS1.out.size
  have hr0 : w2.cell? ⟨R, 0, none⟩ = some (.int .i64 2) := hBE.cell 0
  have hr1 : w2.cell? ⟨R, 1, none⟩ = some (.slice (some ⟨G, 0, none⟩) 1 1) := hBE.cell 1
  clear hw2 hBE hwa hBa hSa
  refine bodyPost_ret (v := .agg #[.int .i64 2, .slice (some ⟨G, 0, none⟩) 1 1]) (by simp [results, Try.results22, go_sem, hr0, hr1]) rfl ?_
  exact ⟨_, _, rfl, hOE, fresh_some hGw, hSE⟩
set_option maxRecDepth 100000 in
set_option maxHeartbeats 16000000 in
theorem sawake_any (w : World) : Calls Try.prog 10 #[] w fun e w' => e = .returned (.bool true) ∧ Same w w' := by
  go_enter Try.func10, Try.ntmps10
  go_wp2_with (fail)
  refine (one_any 8 w).mono ?_
  rintro e w1 ⟨A0, C0, rfl, hNT⟩
  have HS := Lib.hid hNT.2.2
  have HT := Lib.hid hNT.1
  clear hNT
  go_wp2_with (fail)
  refine call_world fun w2 hw => ?_
  have hsw : Same w1 w2 := by rw [hw]; exact ((Frm.refl _ _).alloc _).alloc _
  have hsl : Sl w2 2 Tb.cells (some ⟨w1.heap.size, 0, none⟩) 1 [⟨2, A0, C0, [8]⟩] := by
    have h := Own.lit w1 37 Tb.cells (m := 2) (fun _ => rfl) [⟨2, A0, C0, [8]⟩] (by simp [maxLen]) (cs := #[.int .i64 2, .slice A0 1 C0]) rfl
    rw [hw]
    exact Sl.same (h.sl (fun _ => rfl)) ((Frm.refl _ _).alloc _)
  have hil : IL w2 (some ⟨w1.heap.size + 1, 0, none⟩) 2 [0, 1] := by
    have h := Own.lit (w1.alloc (.cells #[.int .i64 2, .slice A0 1 C0] 37)) 3 icell (m := 1) (fun _ => rfl) [0, 1] (by simp [maxLen]) (cs := #[.int .i64 0, .int .i64 1]) rfl
    rw [hw]
    simpa using Own.il h
  have hok : ∀ t ∈ [(⟨2, A0, C0, [8]⟩ : Tb)], TbOk w2 t := fun t ht => by
    obtain rfl := List.mem_singleton.1 ht
    exact ⟨Sl.same (HT.out.sl ucell_len) hsw, fun z hz => by obtain rfl := List.mem_singleton.1 hz; decide⟩
  replace HS := Lib.hid (HS.out.trans hsw (fun _ _ h => h))
  clear hw hsw HT
  refine (size_any _ 1 _ _ _ 2 _ [0, 1] w2 hsl hok (by decide) hil (by decide)).mono ?_
  rintro e w3 ⟨rfl, hs⟩
  rw [aw_p8, aw_e8]
  replace HS := Lib.hid (HS.out.trans hs (fun _ _ h => h))
  clear hs hsl hil hok
  go_wp2_with (fail)
  refine (one_any 6 w3).mono ?_
  rintro e w4 ⟨A1, C1, rfl, hNT⟩
  replace HS := Lib.hid (HS.out.trans hNT.2.2 (fun _ _ h => h))
  have HT := Lib.hid hNT.1
  clear hNT
  go_wp2_with (fail)
  refine call_world fun w5 hw => ?_
  have hsw : Same w4 w5 := by rw [hw]; exact ((Frm.refl _ _).alloc _).alloc _
  have hsl : Sl w5 2 Tb.cells (some ⟨w4.heap.size, 0, none⟩) 1 [⟨2, A1, C1, [6]⟩] := by
    have h := Own.lit w4 37 Tb.cells (m := 2) (fun _ => rfl) [⟨2, A1, C1, [6]⟩] (by simp [maxLen]) (cs := #[.int .i64 2, .slice A1 1 C1]) rfl
    rw [hw]
    exact Sl.same (h.sl (fun _ => rfl)) ((Frm.refl _ _).alloc _)
  have hil : IL w5 (some ⟨w4.heap.size + 1, 0, none⟩) 2 [0, 1] := by
    have h := Own.lit (w4.alloc (.cells #[.int .i64 2, .slice A1 1 C1] 37)) 3 icell (m := 1) (fun _ => rfl) [0, 1] (by simp [maxLen]) (cs := #[.int .i64 0, .int .i64 1]) rfl
    rw [hw]
    simpa using Own.il h
  have hok : ∀ t ∈ [(⟨2, A1, C1, [6]⟩ : Tb)], TbOk w5 t := fun t ht => by
    obtain rfl := List.mem_singleton.1 ht
    exact ⟨Sl.same (HT.out.sl ucell_len) hsw, fun z hz => by obtain rfl := List.mem_singleton.1 hz; decide⟩
  replace HS := Lib.hid (HS.out.trans hsw (fun _ _ h => h))
  clear hw hsw HT
  refine (profile_any _ 1 _ _ _ 2 _ [0, 1] w5 hsl hok (by decide) hil (by decide)).mono ?_
  rw [aw_p6, aw_e6]
  rintro e w6 ⟨Ap, Cp, rfl, hNT⟩
  replace HS := Lib.hid (HS.out.trans hNT.2.2 (fun _ _ h => h))
  have HOP := Lib.hid hNT.1
  clear hNT hsl hil hok
  go_wp2_with (fail)
  refine (one_any 6 w6).mono ?_
  rintro e w7 ⟨A2, C2, rfl, hNT⟩
  replace HS := Lib.hid (HS.out.trans hNT.2.2 (fun _ _ h => h))
  replace HOP := Lib.hid (Own.frm HOP.out hNT.2.2 (fun _ _ => id))
  have HT := Lib.hid hNT.1
  clear hNT
  go_wp2_with (fail)
  refine call_world fun w8 hw => ?_
  have hsw : Same w7 w8 := by rw [hw]; exact (Frm.refl _ _).alloc _
  have hsl : Sl w8 2 Tb.cells (some ⟨w7.heap.size, 0, none⟩) 1 [⟨2, A2, C2, [6]⟩] := by
    have h := Own.lit w7 37 Tb.cells (m := 2) (fun _ => rfl) [⟨2, A2, C2, [6]⟩] (by simp [maxLen]) (cs := #[.int .i64 2, .slice A2 1 C2]) rfl
    rw [hw]
    exact h.sl (fun _ => rfl)
  have hok : ∀ t ∈ [(⟨2, A2, C2, [6]⟩ : Tb)], TbOk w8 t := fun t ht => by
    obtain rfl := List.mem_singleton.1 ht
    exact ⟨Sl.same (HT.out.sl ucell_len) hsw, fun z hz => by obtain rfl := List.mem_singleton.1 hz; decide⟩
  replace HS := Lib.hid (HS.out.trans hsw (fun _ _ h => h))
  replace HOP := Lib.hid (Own.frm HOP.out hsw (fun _ _ => id))
  clear hw hsw HT
  refine (level_any _ 1 _ _ 1 1 w8 hsl hok (by decide) (by decide)).mono ?_
  rw [aw_l6, aw_le]
  rintro e w9 ⟨rfl, hs⟩
  replace HS := Lib.hid (HS.out.trans hs (fun _ _ h => h))
  replace HOP := Lib.hid (Own.frm HOP.out hs (fun _ _ => id))
  clear hs hsl hok
  go_wp2_with (fail)
  refine call_world fun wa hw => ?_
  have hsw : Same w9 wa := by rw [hw]; exact (Frm.refl _ _).alloc _
  have hil : IL wa (some ⟨w9.heap.size, 0, none⟩) 2 [1, 2] := by
    have h := Own.lit w9 3 icell (m := 1) (fun _ => rfl) [1, 2] (by simp [maxLen]) (cs := #[.int .i64 1, .int .i64 2]) rfl
    rw [hw]
    exact Own.il h
  replace HS := Lib.hid (HS.out.trans hsw (fun _ _ h => h))
  refine (psame_any _ _ 2 2 _ _ [1, 2] [1, 2] wa (Own.il (Own.frm HOP.out hsw (fun _ _ => id))) hil (by decide) (by decide)).mono ?_
  rintro e wb ⟨rfl, hs⟩
  replace HS := Lib.hid (HS.out.trans hs (fun _ _ h => h))
  clear hw hsw hil hs
  rw [show decide (([1, 2] : List Int) = [1, 2]) = true from rfl]
  go_wp2
  go_ret
  exact ⟨rfl, HS.out⟩
end Go.Proofs.Ytakepdkokjecoaa


/- Shape: ShapeSums: the walk. -/
namespace Go.Proofs.Ytakepdkokjecoaa
open Go.RowKit Go.Tk Go.Maps

theorem setAt_nil (nn : Nat) : ∀ vs : List Nat, setAt nn [] vs = []
  | [] => rfl
  | v :: vs => by
    rw [setAt_cons]
    exact setAt_nil nn vs
theorem or_shift {ab v : Nat} (hab : ab < 65536) (hv : v < 16) : bits .or .u64 (ab : Int) (IntKind.u64.wrap (2 ^ v)) = ((ab ||| 2 ^ v : Nat) : Int) := by
  have h1 : (2 : Nat) ^ v ≤ 2 ^ 16 := Nat.pow_le_pow_right (by omega) (by omega)
  have h2 : (2 : Int) ^ v = ((2 ^ v : Nat) : Int) := by rw [Int.natCast_pow]; rfl
  rw [h2]
  generalize 2 ^ v = pw at *
  rw [IntWalk.u64_in _ (by omega)]
  exact u64_or_nat ab pw (by omega) (by omega)
theorem prE_16 {xs : List Tb} {os : List Int} (he : prE xs os = 0) : os.length ≤ 16 ∧ IsPerm os := by
  unfold prE at he
  cases hf : fm xs with
  | false => rw [hf] at he; cases he
  | true =>
    rw [hf, if_pos rfl] at he
    by_cases hc : (0 < xs.length ∧ (os.length : Int) ≠ tN0 xs) ∨ chk os = 4
    · rw [if_pos hc] at he; cases he
    · rw [if_neg hc] at he
      by_cases h16 : 16 < os.length
      · rw [if_pos h16] at he; cases he
      · refine ⟨by omega, ?_⟩
        by_cases hp : IsPerm os
        · exact hp
        · exact absurd (.inr (by unfold chk; rw [if_neg hp])) hc
set_option maxRecDepth 100000 in
set_option maxHeartbeats 16000000 in
theorem sums_walk (AL : Option Addr) (n C : Nat) (xs : List Tb) (Ao : Option Addr) (Lo Co : Nat) (os : List Int) (w : World) (h : Sl w 2 Tb.cells AL n xs) (hok : ∀ t ∈ xs, TbOk w t) (hn : n ≤ 8796093022210) (ho : IL w Ao Lo os) (hLo : Lo * 8 ≤ 140737488351232) :
    Calls Try.prog 3 #[.slice AL n C, .slice Ao Lo Co] w fun e w' => e = .returned (.bool true) ∧ Below w.heap.size w w' := by
  obtain rfl := ho.len
  have H := Lib.hid h
  have HOK := Lib.hid hok
  have HO := Lib.hid ho
  have HXL := Lib.hid h.len
  have HP := Lib.hid (fun w' (hs : Same w w') => profile_any AL n C xs Ao os.length Co os w' (Sl.same h hs) (fun t ht => (hok t ht).same hs) hn (Sl.same ho hs) hLo)
  have HZ := Lib.hid (fun w' (hs : Same w w') => size_any AL n C xs Ao os.length Co os w' (Sl.same h hs) (fun t ht => (hok t ht).same hs) hn (Sl.same ho hs) hLo)
  have HBD := Lib.hid (fun k hk => prL_bound (xs := xs) (os := os) (n := n) h.len.symm hn k hk)
  clear h hok ho
  by_cases he : prE xs os = 0
  · obtain ⟨h16, hper⟩ := prE_16 he
    have hpl : prL xs os = proL os.length (tSet xs) (os.map Int.toNat) os.length := by unfold prL; rw [if_pos he]
    obtain ⟨vs, hvs⟩ : ∃ z, z = os.map Int.toNat := ⟨_, rfl⟩
    have HVS := Lib.hid hvs
    have HE := Lib.hid he
    have HPER := Lib.hid hper
    have HPL := Lib.hid hpl
    rw [he] at HP HZ
    obtain ⟨ys, hys⟩ : ∃ z, z = prL xs os := ⟨_, rfl⟩
    have HYS := Lib.hid hys
    have hyl : ys.length = os.length := by rw [hys, hpl, proL_len]
    have HYL := Lib.hid hyl
    rw [← hys] at HP HZ HBD
    have hP2 : ∀ w', Same w w' → Calls Try.prog 11 #[.slice AL n C, .slice Ao os.length Co] w' (fun e w2 => ∃ A C, e = .returned (.tuple #[.slice A os.length C, .int .i64 0]) ∧ IL w2 A os.length ys ∧ Same w' w2) := fun w' hs => (HP.out w' hs).mono fun e w2 ⟨A, C, h1, h2⟩ => by
      have h3 := Own.il h2.1
      rw [hyl] at h1 h3
      exact ⟨A, C, h1, h3, h2.2.2⟩
    have HP2 := Lib.hid hP2
    clear hP2 he hper hpl hvs hys hyl HP
    go_enter Try.func3, Try.ntmps3
    go_wp2_with (fail)
    refine (sawake_any w).mono ?_
    rintro e w1 ⟨rfl, hs⟩
    have HS := Lib.hid hs
    clear hs
    go_wp2_with (fail)
    refine (HP2.out w1 HS.out).mono ?_
    rintro e w2 ⟨Ap, Cp, rfl, hil, hs⟩
    have HIL := Lib.hid hil
    replace HS := Lib.hid (HS.out.trans hs (fun _ _ h => h))
    clear hs hil
    go_wp2_with (fail)
    refine (HZ.out w2 HS.out).mono ?_
    rintro e w3 ⟨rfl, hs⟩
    replace HIL := Lib.hid (Sl.same HIL.out hs)
    replace HS := Lib.hid (HS.out.trans hs (fun _ _ h => h))
    clear hs
    obtain ⟨tot, htot⟩ : ∃ z, z = ys.sum := ⟨_, rfl⟩
    have HTOT := Lib.hid htot
    rw [← htot]
    clear htot
    go_wp2
    go_loopw [9, 10, 11] (fun a s i wi => ∃ k : Nat, k ≤ os.length ∧ i = .int .i64 k ∧ a = .int .u64 (abv (vs.take k) : Nat) ∧ s = .int .i64 (ys.take k).sum ∧ Same w3 wi) (fun _ _ i _ => os.length - (intOf i).toNat)
    case atStart => exact ⟨0, by omega, rfl, by simp [abv], by simp, Frm.refl _ _⟩
    case round =>
      obtain ⟨k, hk, rfl, rfl, rfl, hs⟩ := hrel
      by_cases hlt : k < os.length
      · obtain ⟨v, hv, hvn⟩ := IsPerm.at HPER.out hlt
        obtain ⟨bo, oo, hA, hbo, hc⟩ := (Sl.same HO.out (HS.out.trans hs (fun _ _ h => h))).at1 hv
        obtain ⟨x, hx⟩ : ∃ x, ys[k]? = some x := ⟨_, List.getElem?_eq_getElem (by rw [HYL.out]; exact hlt)⟩
        obtain ⟨bp, op, hAp, hbp, hcp⟩ := (Sl.same HIL.out hs).at1 hx
        subst hA hAp
        have hxv : x = ((cntL os.length v (setAt os.length (tSet xs) (vs.take k)) : Nat) : Int) := by
          have h1 : (proL os.length (tSet xs) vs os.length)[k]? = some x := by rw [HVS.out, ← HPL.out, ← HYS.out]; exact hx
          unfold proL at h1
          rw [List.getElem?_map, List.getElem?_range hlt] at h1
          have h2 : ((cntL os.length (vs.getD k 0) (setAt os.length (tSet xs) (vs.take k)) : Nat) : Int) = x := Option.some.inj h1
          have hvd : vs.getD k 0 = v := by rw [HVS.out, List.getD_eq_getElem?_getD, List.getElem?_map, hv]; rfl
          rw [hvd] at h2
          exact h2.symm
        have hlt16 : ∀ z ∈ vs.take k, z < 16 := fun z hz => by
          rw [HVS.out] at hz
          obtain ⟨y, hy, rfl⟩ := List.mem_map.1 (List.mem_of_mem_take hz)
          have := HPER.out.1 y hy
          omega
        have hab : abv (vs.take k) < 65536 := abv_lt (nn := 16) hlt16
        have htk : vs.take (k + 1) = vs.take k ++ [v] := by rw [List.take_add_one, HVS.out, List.getElem?_map, hv]; rfl
        have hor : abv (vs.take (k + 1)) = abv (vs.take k) ||| 2 ^ v := by rw [htk, abv_snoc]
        have HOR := Lib.hid hor
        have hb1 := HBD.out (k + 1) (by rw [HYL.out]; exact hlt)
        have hsm := sum_snoc hx
        have hwr : IntKind.i64.wrap ((ys.take k).sum + x) = (ys.take (k + 1)).sum := by rw [← hsm]; exact IntWalk.i64_in _ (by omega)
        have HXV := Lib.hid hxv
        have HV := Lib.hid hv
        have HSR := Lib.hid (HS.out.trans hs (fun _ _ h => h))
        have HSI := Lib.hid hs
        have hk0 : (0 : Int) ≤ k := by omega
        have hk1 : (k : Int) < os.length := by omega
        obtain ⟨ab, hab2⟩ : ∃ z, z = abv (vs.take k) := ⟨_, rfl⟩
        have HAB := Lib.hid hab2
        rw [← hab2] at hab ⊢
        clear hxv hv hlt16 htk hor hb1 hsm hx hs hab2
        go_wp2_with (fail)
        refine (level_any _ n C xs ab (v : Int) wr (Sl.same H.out HSR.out) (fun t ht => (HOK.out t ht).same HSR.out) hn (by omega)).mono ?_
        rintro e w4 ⟨rfl, hs⟩
        have hc2 := (hs.cell (p := ⟨bo, oo + k, none⟩) hbo id).trans hc
        have hcp2 := (hs.cell (p := ⟨bp, op + k, none⟩) hbp id).trans hcp
        have hbo2 := Nat.lt_of_lt_of_le hbo hs.size
        have hbp2 := Nat.lt_of_lt_of_le hbp hs.size
        have HS4 := Lib.hid (HSI.out.trans hs (fun _ _ h => h))
        clear hs hc hcp hbo hbp
        have hv0 : ¬ (v : Int) < 0 := by omega
        have hv15 : ¬ (15 : Int) < v := by omega
        have hv00 : (0 : Int) ≤ v := by omega
        by_cases hn0 : n = 0
        · have hxs : xs = [] := List.eq_nil_of_length_eq_zero (by rw [← HXL.out]; exact hn0)
          have hx0 : x = 0 := by
            have := HXV.out
            rw [hxs, show tSet [] = [] from rfl, setAt_nil] at this
            exact this
          have hnp : ¬ (0 : Int) < n := by omega
          have hnz : ((n : Int) == 0) = true := by rw [hn0]; rfl
          have hxz : (x != 0) = false := by rw [hx0]; rfl
          clear hx0
          generalize lvC xs ab (v : Int) = cc
          generalize lvE xs ab (v : Int) = ee
          clear hxs hn0
          have hor : bits .or .u64 (ab : Int) (IntKind.u64.wrap (2 ^ v)) = ((abv (vs.take (k + 1)) : Nat) : Int) := by
            rw [HOR.out, ← HAB.out]
            exact or_shift hab (by omega)
          go_upto_region 19 with fail
          clear hor
          go_wp2
          go_roundw
          case rel => exact ⟨k + 1, by omega, by go_num, rfl, rfl, HS4.out⟩
          case measure => simp [intOf] <;> omega
        · have hne : xs ≠ [] := by
            intro h
            rw [HXL.out, h] at hn0
            exact hn0 rfl
          have hle := level_of HE.out hne HPER.out HV.out
          rw [← HVS.out, ← HAB.out] at hle
          have hnp : (0 : Int) < n := by omega
          have hnz : ((n : Int) == 0) = false := by rw [beq_eq_false_iff_ne]; omega
          rw [hle.1, hle.2, ← HXV.out]
          clear hle hne hn0
          have hor : bits .or .u64 (ab : Int) (IntKind.u64.wrap (2 ^ v)) = ((abv (vs.take (k + 1)) : Nat) : Int) := by
            rw [HOR.out, ← HAB.out]
            exact or_shift hab (by omega)
          go_upto_region 19 with fail
          clear hor
          go_wp2
          go_roundw
          case rel => exact ⟨k + 1, by omega, by go_num, rfl, rfl, HS4.out⟩
          case measure => simp [intOf] <;> omega
      · obtain rfl : k = os.length := by omega
        have hsum : ((ys.take os.length).sum == tot) = true := by rw [HTOT.out, List.take_of_length_le (by rw [HYL.out]; exact Nat.le_refl _)]; simp
        have HFIN := Lib.hid ((HS.out.trans hs (fun _ _ h => h)).to_below (Nat.le_refl _) (fun _ _ => id))
        clear hs
        go_wp2
        go_ret
        exact ⟨rfl, HFIN.out⟩
  · have hpl : prL xs os = [] := by unfold prL; rw [if_neg he]
    rw [hpl] at HP HZ
    obtain ⟨er, her⟩ : ∃ z, z = prE xs os := ⟨_, rfl⟩
    rw [← her] at HP HZ he
    have hne : (er != 0) = true := by simpa using he
    clear hpl her HBD he
    go_enter Try.func3, Try.ntmps3
    go_wp2_with (fail)
    refine (sawake_any w).mono ?_
    rintro e w1 ⟨rfl, hs⟩
    have HS := Lib.hid hs
    clear hs
    go_wp2_with (fail)
    refine (HP.out w1 HS.out).mono ?_
    rintro e w2 ⟨Ap, Cp, rfl, hNT⟩
    replace HS := Lib.hid (HS.out.trans hNT.2.2 (fun _ _ h => h))
    clear hNT
    go_wp2_with (fail)
    refine (HZ.out w2 HS.out).mono ?_
    rintro e w3 ⟨rfl, hs⟩
    have HFIN := Lib.hid ((HS.out.trans hs (fun _ _ h => h)).to_below (Nat.le_refl _) (fun _ _ => id))
    clear hs
    simp only [List.sum_nil]
    go_wp2
    go_ret
    exact ⟨rfl, HFIN.out⟩
end Go.Proofs.Ytakepdkokjecoaa


/- Shape: ShapeBounds: the walk. -/
namespace Go.Proofs.Ytakepdkokjecoaa
open Go.RowKit Go.Tk Go.Maps

theorem fm_of_ok {xs : List Tb} {os : List Int} (he : prE xs os = 0) : fm xs = true ∧ (xs ≠ [] → tN0 xs = (os.length : Int)) := by
  have hfm : fm xs = true := by
    cases h : fm xs with
    | true => rfl
    | false => unfold prE at he; rw [h] at he; cases he
  refine ⟨hfm, fun hne => ?_⟩
  unfold prE at he
  rw [hfm, if_pos rfl] at he
  by_cases hc : (0 < xs.length ∧ (os.length : Int) ≠ tN0 xs) ∨ chk os = 4
  · rw [if_pos hc] at he; cases he
  · by_cases hh : (os.length : Int) = tN0 xs
    · exact hh.symm
    · exact absurd (.inl ⟨List.length_pos_iff.2 hne, hh⟩) hc
theorem setAt_small {nn : Nat} : ∀ (vs : List Nat) {L : List (List Nat)}, (∀ x ∈ L, Small x) → ∀ x ∈ setAt nn L vs, Small x
  | [], _, h => h
  | v :: vs, L, h => by
    rw [setAt_cons]
    exact setAt_small vs fun x hx => by
      obtain ⟨y, _, b, rfl⟩ := stepS_hT.1 hx
      exact fun z hz => tab_lt z hz
/-- a level's number is not above what its place allows -/
theorem lev_bounds {xs : List Tb} {os : List Int} (hok : ∀ t ∈ xs, Small t.ws) (he : prE xs os = 0) {k v : Nat} (hv : os[k]? = some (v : Int)) :
    cntL os.length v (setAt os.length (tSet xs) ((os.map Int.toNat).take k)) ≤ xs.length * 2 ^ k ∧ cntL os.length v (setAt os.length (tSet xs) ((os.map Int.toNat).take k)) + 2 ^ 2 ^ (os.length - 1 - k) ≤ 2 ^ 2 ^ (os.length - 1 - k + 1) := by
  obtain ⟨h16, hper⟩ := prE_16 he
  obtain ⟨hfm, hN⟩ := fm_of_ok he
  have hkl := lt_of_get hv
  obtain ⟨vs, hvs⟩ : ∃ z, z = os.map Int.toNat := ⟨_, rfl⟩
  rw [← hvs]
  have hvl : vs.length = os.length := by rw [hvs, List.length_map]
  have hnd : vs.Nodup := by
    rw [hvs, List.nodup_iff_pairwise_ne, List.pairwise_map]
    refine List.Pairwise.imp_of_mem ?_ hper.2
    intro a b ha hb hab h
    have h1 := hper.1 a ha
    have h2 := hper.1 b hb
    omega
  have hlt : ∀ x ∈ vs, x < os.length := fun x hx => by
    rw [hvs] at hx
    obtain ⟨y, hy, rfl⟩ := List.mem_map.1 hx
    have := hper.1 y hy
    omega
  have hall : ∀ x, x < os.length → x ∈ vs := fun x hx => by
    rw [hvs]
    exact List.mem_map.2 ⟨(x : Int), hper.mem hx, Int.toNat_natCast x⟩
  have hvk : vs[k]? = some v := by rw [hvs, List.getElem?_map, hv]; rfl
  have hsp : vs = vs.take k ++ v :: vs.drop (k + 1) := by
    have h1 : vs.drop k = v :: vs.drop (k + 1) := by
      rw [List.drop_eq_getElem_cons (by omega)]
      congr 1
      have := List.getElem?_eq_getElem (l := vs) (i := k) (by omega)
      rw [this] at hvk
      exact Option.some.inj hvk
    rw [← h1, List.take_append_drop]
  have hus : (vs.drop (k + 1)).length = os.length - 1 - k := by rw [List.length_drop, hvl]; omega
  have hFN : ∀ ws ∈ tSet xs, FormN os.length ws := tSet_form hfm hN
  have hSM : ∀ ws ∈ tSet xs, Small ws := fun ws hw => by
    obtain ⟨t, ht, rfl⟩ := List.mem_map.1 (mem_uniq.1 hw)
    exact hok t ht
  constructor
  · refine Nat.le_trans (cnt_le _ _ _) (Nat.le_trans (setAt_len _ _ _) ?_)
    rw [Nat.mul_comm xs.length]
    refine Nat.mul_le_mul (Nat.pow_le_pow_right (by omega) (by rw [List.length_take]; omega)) (tSet_len xs)
  · rw [← hus]
    refine cnt_bound (ds := vs.take k) (setAt_nodup _ (uniq_nodup _)) (setAt_form h16 _ hFN) (setAt_small _ hSM) (hlt v (List.mem_of_getElem? hvk)) (fun x hx u hu => ⟨hlt u (List.mem_of_mem_take hu), ind_set (vs.take k) (tSet xs) (fun _ => False) (fun _ h => h.elim) (fun w hw => hlt w (List.mem_of_mem_take hw)) (fun _ _ _ h => h.elim) x hx u (.inr hu)⟩) (fun w hw => ?_)
    have hw2 := hall w hw
    have hnd2 := hnd
    rw [hsp] at hw2 hnd2
    obtain ⟨n1, n2, n3⟩ := List.nodup_append.1 hnd2
    obtain ⟨n4, n5⟩ := List.nodup_cons.1 n2
    constructor
    · intro h1 h2
      rcases List.mem_cons.1 h2 with rfl | h2
      · exact n4 h1
      · exact n3 w h2 w (List.mem_cons_of_mem _ h1) rfl
    · intro h1
      rcases List.mem_append.1 hw2 with h2 | h2
      · exact absurd (List.mem_cons_of_mem _ h2) h1
      · rcases List.mem_cons.1 h2 with rfl | h2
        · exact absurd List.mem_cons_self h1
        · exact h2
set_option maxRecDepth 100000 in
set_option maxHeartbeats 16000000 in
theorem bounds_walk (AL : Option Addr) (n C : Nat) (xs : List Tb) (Ao : Option Addr) (Lo Co : Nat) (os : List Int) (w : World) (h : Sl w 2 Tb.cells AL n xs) (hok : ∀ t ∈ xs, TbOk w t) (hn : n ≤ 8796093022210) (ho : IL w Ao Lo os) (hLo : Lo * 8 ≤ 140737488351232) :
    Calls Try.prog 4 #[.slice AL n C, .slice Ao Lo Co] w fun e w' => e = .returned (.bool true) ∧ Below w.heap.size w w' := by
  obtain rfl := ho.len
  have HXL := Lib.hid h.len
  have HP := Lib.hid (fun w' (hs : Same w w') => profile_any AL n C xs Ao os.length Co os w' (Sl.same h hs) (fun t ht => (hok t ht).same hs) hn (Sl.same ho hs) hLo)
  have HSM := Lib.hid (fun t (ht : t ∈ xs) => (hok t ht).small)
  clear h hok ho
  by_cases he : prE xs os = 0
  · obtain ⟨h16, hper⟩ := prE_16 he
    have hpl : prL xs os = proL os.length (tSet xs) (os.map Int.toNat) os.length := by unfold prL; rw [if_pos he]
    have HE := Lib.hid he
    have HPER := Lib.hid hper
    have HPL := Lib.hid hpl
    rw [he] at HP
    obtain ⟨ys, hys⟩ : ∃ z, z = prL xs os := ⟨_, rfl⟩
    have HYS := Lib.hid hys
    have hyl : ys.length = os.length := by rw [hys, hpl, proL_len]
    have HYL := Lib.hid hyl
    rw [← hys] at HP
    have hP2 : ∀ w', Same w w' → Calls Try.prog 11 #[.slice AL n C, .slice Ao os.length Co] w' (fun e w2 => ∃ A C, e = .returned (.tuple #[.slice A os.length C, .int .i64 0]) ∧ IL w2 A os.length ys ∧ Same w' w2) := fun w' hs => (HP.out w' hs).mono fun e w2 ⟨A, C, h1, h2⟩ => by
      have h3 := Own.il h2.1
      rw [hyl] at h1 h3
      exact ⟨A, C, h1, h3, h2.2.2⟩
    have HP2 := Lib.hid hP2
    clear hP2 he hper hpl hys hyl HP
    go_enter Try.func4, Try.ntmps4
    go_wp2_with (fail)
    refine (sawake_any w).mono ?_
    rintro e w1 ⟨rfl, hs⟩
    have HS := Lib.hid hs
    clear hs
    go_wp2_with (fail)
    refine (HP2.out w1 HS.out).mono ?_
    rintro e w3 ⟨Ap, Cp, rfl, hil, hs⟩
    have HIL := Lib.hid hil
    replace HS := Lib.hid (HS.out.trans hs (fun _ _ h => h))
    clear hs hil
    go_wp2
    go_loopw [7] (fun i wi => ∃ k : Nat, k ≤ os.length ∧ i = .int .i64 k ∧ Same w3 wi) (fun i _ => os.length - (intOf i).toNat)
    case atStart => exact ⟨0, by omega, rfl, Frm.refl _ _⟩
    case round =>
      obtain ⟨k, hk, rfl, hs⟩ := hrel
      by_cases hlt : k < os.length
      · obtain ⟨v, hv, hvn⟩ := IsPerm.at HPER.out hlt
        obtain ⟨x, hx⟩ : ∃ x, ys[k]? = some x := ⟨_, List.getElem?_eq_getElem (by rw [HYL.out]; exact hlt)⟩
        obtain ⟨bp, op, hAp, hbp, hcp⟩ := (Sl.same HIL.out hs).at1 hx
        subst hAp
        have hxv : x = ((cntL os.length v (setAt os.length (tSet xs) ((os.map Int.toNat).take k)) : Nat) : Int) := by
          have h1 : (proL os.length (tSet xs) (os.map Int.toNat) os.length)[k]? = some x := by rw [← HPL.out, ← HYS.out]; exact hx
          unfold proL at h1
          rw [List.getElem?_map, List.getElem?_range hlt] at h1
          have h2 : ((cntL os.length ((os.map Int.toNat).getD k 0) (setAt os.length (tSet xs) ((os.map Int.toNat).take k)) : Nat) : Int) = x := Option.some.inj h1
          have hvd : (os.map Int.toNat).getD k 0 = v := by rw [List.getD_eq_getElem?_getD, List.getElem?_map, hv]; rfl
          rw [hvd] at h2
          exact h2.symm
        obtain ⟨hb1, hb2⟩ := lev_bounds HSM.out HE.out hv
        rw [← HXL.out] at hb1
        obtain ⟨ct, hct⟩ : ∃ z, z = cntL os.length v (setAt os.length (tSet xs) ((os.map Int.toNat).take k)) := ⟨_, rfl⟩
        rw [← hct] at hxv hb1 hb2
        obtain ⟨bb, hbb⟩ : ∃ bb, bb = os.length - 1 - k := ⟨_, rfl⟩
        rw [← hbb] at hb2
        obtain ⟨nk, hnk⟩ : ∃ nk, nk = n * 2 ^ k := ⟨_, rfl⟩
        have hnk2 : nk ≤ n * 65536 := by rw [hnk]; exact Nat.mul_le_mul_left n (Nat.pow_le_pow_right (n := 2) (by omega) (show k ≤ 16 by omega))
        have hnki : (n : Int) * 2 ^ k = (nk : Int) := by rw [hnk, Int.natCast_mul, Int.natCast_pow]; rfl
        rw [← hnk] at hb1
        have hx0 : ¬ x < 0 := by omega
        have hx1 : ¬ (nk : Int) < x := by omega
        have hwn : IntKind.i64.wrap ((n : Int) * 2 ^ k) = (nk : Int) := by rw [hnki]; exact IntWalk.i64_in _ (by omega)
        have hwb1 : IntKind.i64.wrap ((os.length : Int) - 1) = (os.length : Int) - 1 := IntWalk.i64_in _ (by omega)
        have hwb2 : IntKind.i64.wrap ((os.length : Int) - 1 - k) = (bb : Int) := by
          rw [show (os.length : Int) - 1 - k = (bb : Int) by omega]
          exact IntWalk.i64_in _ (by omega)
        have hk0 : (0 : Int) ≤ k := by omega
        have hk1 : (k : Int) < os.length := by omega
        have HSI := Lib.hid hs
        have HXC := Lib.hid hxv
        have HB2 := Lib.hid hb2
        clear hxv hb2 hct hnk hnk2 hnki hb1 hs hx hv
        go_upto_region 9 with fail
        refine wp_quiet (by kernel_rfl) (by kernel_rfl) ?_
        repeat (any_goals (first | go_big_quiet_step (fail) | quiet_step (fail)))
        refine wpQuiet_nil ?_
        rintro wy ⟨qq, hq⟩
        have hsz : Same wr wy := by rw [hq]; exact more_same _ qq
        have hcp2 := (hsz.cell (p := ⟨bp, op + k, none⟩) hbp id).trans hcp
        have hbp2 := Nat.lt_of_lt_of_le hbp hsz.size
        have HSY := Lib.hid (HSI.out.trans hsz (fun _ _ h => h))
        clear hq hsz hcp hbp hx0 hx1 hwn
        by_cases hb3 : bb ≤ 3
        · have hb4 : bb = 0 ∨ bb = 1 ∨ bb = 2 ∨ bb = 3 := by omega
          rcases hb4 with hb4 | hb4 | hb4 | hb4 <;> rw [hb4] at HB2 hwb2
          · clear hb4 hbb hb3
            replace hwb2 : IntKind.i64.wrap ((os.length : Int) - 1 - k) = (0 : Int) := hwb2
            have hxc : ¬ (2 : Int) < x := by
              have h1 := HB2.out
              have h2 := HXC.out
              simp only [Nat.reduceAdd, Nat.reducePow] at h1
              omega
            go_upto_region 12 with fail
            refine wp_quiet (by kernel_rfl) (by kernel_rfl) ?_
            repeat (any_goals (first | go_big_quiet_step (fail) | quiet_step (fail)))
            refine wpQuiet_nil ?_
            rintro wz ⟨qz, hq⟩
            have hsz : Same wy wz := by rw [hq]; exact more_same _ qz
            have HSZ := Lib.hid (HSY.out.trans hsz (fun _ _ h => h))
            clear hq hsz
            go_wp2
            go_roundw
            case rel => exact ⟨k + 1, by omega, by go_num, HSZ.out⟩
            case measure => simp [intOf] <;> omega
          · clear hb4 hbb hb3
            replace hwb2 : IntKind.i64.wrap ((os.length : Int) - 1 - k) = (1 : Int) := hwb2
            have hxc : ¬ (12 : Int) < x := by
              have h1 := HB2.out
              have h2 := HXC.out
              simp only [Nat.reduceAdd, Nat.reducePow] at h1
              omega
            go_upto_region 12 with fail
            refine wp_quiet (by kernel_rfl) (by kernel_rfl) ?_
            repeat (any_goals (first | go_big_quiet_step (fail) | quiet_step (fail)))
            refine wpQuiet_nil ?_
            rintro wz ⟨qz, hq⟩
            have hsz : Same wy wz := by rw [hq]; exact more_same _ qz
            have HSZ := Lib.hid (HSY.out.trans hsz (fun _ _ h => h))
            clear hq hsz
            go_wp2
            go_roundw
            case rel => exact ⟨k + 1, by omega, by go_num, HSZ.out⟩
            case measure => simp [intOf] <;> omega
          · clear hb4 hbb hb3
            replace hwb2 : IntKind.i64.wrap ((os.length : Int) - 1 - k) = (2 : Int) := hwb2
            have hxc : ¬ (240 : Int) < x := by
              have h1 := HB2.out
              have h2 := HXC.out
              simp only [Nat.reduceAdd, Nat.reducePow] at h1
              omega
            go_upto_region 12 with fail
            refine wp_quiet (by kernel_rfl) (by kernel_rfl) ?_
            repeat (any_goals (first | go_big_quiet_step (fail) | quiet_step (fail)))
            refine wpQuiet_nil ?_
            rintro wz ⟨qz, hq⟩
            have hsz : Same wy wz := by rw [hq]; exact more_same _ qz
            have HSZ := Lib.hid (HSY.out.trans hsz (fun _ _ h => h))
            clear hq hsz
            go_wp2
            go_roundw
            case rel => exact ⟨k + 1, by omega, by go_num, HSZ.out⟩
            case measure => simp [intOf] <;> omega
          · clear hb4 hbb hb3
            replace hwb2 : IntKind.i64.wrap ((os.length : Int) - 1 - k) = (3 : Int) := hwb2
            have hxc : ¬ (65280 : Int) < x := by
              have h1 := HB2.out
              have h2 := HXC.out
              simp only [Nat.reduceAdd, Nat.reducePow] at h1
              omega
            go_upto_region 12 with fail
            refine wp_quiet (by kernel_rfl) (by kernel_rfl) ?_
            repeat (any_goals (first | go_big_quiet_step (fail) | quiet_step (fail)))
            refine wpQuiet_nil ?_
            rintro wz ⟨qz, hq⟩
            have hsz : Same wy wz := by rw [hq]; exact more_same _ qz
            have HSZ := Lib.hid (HSY.out.trans hsz (fun _ _ h => h))
            clear hq hsz
            go_wp2
            go_roundw
            case rel => exact ⟨k + 1, by omega, by go_num, HSZ.out⟩
            case measure => simp [intOf] <;> omega
        · have hbz : ¬ (bb : Int) ≤ 3 := by omega
          have hbd : decide ((bb : Int) ≤ 3) = false := decide_eq_false hbz
          have hbz2 : (3 : Int) < bb := by omega
          clear hbb hb3 HB2
          go_upto_region 12 with fail
          refine wp_quiet (by kernel_rfl) (by kernel_rfl) ?_
          repeat (any_goals (first | go_big_quiet_step (fail) | quiet_step (fail)))
          refine wpQuiet_nil ?_
          rintro wz ⟨qz, hq⟩
          have hsz : Same wy wz := by rw [hq]; exact more_same _ qz
          have HSZ := Lib.hid (HSY.out.trans hsz (fun _ _ h => h))
          clear hq hsz
          go_wp2
          go_roundw
          case rel => exact ⟨k + 1, by omega, by go_num, HSZ.out⟩
          case measure => simp [intOf] <;> omega
      · obtain rfl : k = os.length := by omega
        have HFIN := Lib.hid ((HS.out.trans hs (fun _ _ h => h)).to_below (Nat.le_refl _) (fun _ _ => id))
        clear hs
        go_wp2
        go_ret
        exact ⟨rfl, HFIN.out⟩
  · have hpl : prL xs os = [] := by unfold prL; rw [if_neg he]
    rw [hpl] at HP
    obtain ⟨er, her⟩ : ∃ z, z = prE xs os := ⟨_, rfl⟩
    rw [← her] at HP he
    have hne : (er != 0) = true := by simpa using he
    clear hpl her he
    go_enter Try.func4, Try.ntmps4
    go_wp2_with (fail)
    refine (sawake_any w).mono ?_
    rintro e w1 ⟨rfl, hs⟩
    have HS := Lib.hid hs
    clear hs
    go_wp2_with (fail)
    refine (HP.out w1 HS.out).mono ?_
    rintro e w2 ⟨Ap, Cp, rfl, hNT⟩
    have HFIN := Lib.hid ((HS.out.trans hNT.2.2 (fun _ _ h => h)).to_below (Nat.le_refl _) (fun _ _ => id))
    clear hNT
    go_wp2
    go_ret
    exact ⟨rfl, HFIN.out⟩
end Go.Proofs.Ytakepdkokjecoaa


/- Shape: two levels exchanged (plain). -/
namespace Go.Proofs.Ytakepdkokjecoaa
open Go.RowKit Go.Tk Go.Maps

def dep (nn u : Nat) (x : List Nat) : Prop := loT nn u x ≠ hiT nn u x
theorem ind_of {nn u : Nat} {x : List Nat} (h : ¬ dep nn u x) : Ind nn u x := fun i hi c => by
  have h1 : loT nn u x = hiT nn u x := Classical.not_not.1 h
  have h2 : vb x (wth i u false) = vb x (wth i u true) := by
    have h3 := congrArg (fun z => vb z i) h1
    simp only [loT, hiT] at h3
    rw [vb_tab hi, vb_tab hi] at h3
    exact h3
  have h4 := wth_self i u
  cases hb : i.testBit u <;> rw [hb] at h4 <;> cases c
  · rw [h4]
  · rw [← h2, h4]
  · rw [h2, h4]
  · rw [h4]
theorem dep_of_ind {nn u : Nat} {x : List Nat} (_hu : u < nn) (h : Ind nn u x) : ¬ dep nn u x := fun hd => by
  refine hd (tab_congr fun i hi => ?_)
  show vb x (wth i u false) = vb x (wth i u true)
  rw [h i hi, h i hi]
theorem hT_same {nn u : Nat} {x : List Nat} (hf : FormN nn x) (hs : Small x) (h : ¬ dep nn u x) (b : Bool) : hT nn u b x = x := by
  rw [← tab_vb hf hs]
  refine tab_congr fun i hi => ?_
  show vb (tab nn (vb x)) (wth i u b) = vb x i
  rw [tab_vb hf hs]
  exact ind_of h i hi b
theorem dep_hT {nn u v : Nat} {x : List Nat} (hu : u < nn) (hv : v < nn) {b : Bool} (h : dep nn u (hT nn v b x)) : dep nn u x := by
  refine Classical.byContradiction fun hn => ?_
  exact dep_of_ind hu (ind_keep hu hv b (ind_of hn)) h
theorem apart_set {nn u v : Nat} (hu : u < nn) (hv : v < nn) : ∀ (vs : List Nat) {L : List (List Nat)}, (∀ w ∈ vs, w < nn) → (∀ x ∈ L, ¬ (dep nn u x ∧ dep nn v x)) → ∀ x ∈ setAt nn L vs, ¬ (dep nn u x ∧ dep nn v x)
  | [], _, _, h => h
  | w :: vs, L, hw, h => by
    rw [setAt_cons]
    refine apart_set hu hv vs (fun z hz => hw z (List.mem_cons_of_mem _ hz)) fun x hx => ?_
    obtain ⟨y, hy, b, rfl⟩ := stepS_hT.1 hx
    rintro ⟨h1, h2⟩
    exact h y hy ⟨dep_hT hu (hw w List.mem_cons_self) h1, dep_hT hv (hw w List.mem_cons_self) h2⟩
theorem cnt_along {nn u v : Nat} {S : List (List Nat)} (hu : u < nn) (hv : v < nn) (hS : S.Nodup) (hf : ∀ x ∈ S, FormN nn x) (hs : ∀ x ∈ S, Small x) (h : ∀ x ∈ S, ¬ (dep nn u x ∧ dep nn v x)) : cntL nn u (stepS nn v S) = cntL nn u S := by
  unfold cntL
  refine ((List.perm_ext_iff_of_nodup ((uniq_nodup _).filter _) (hS.filter _)).2 fun y => ?_).length_eq
  rw [List.mem_filter, List.mem_filter, decide_eq_true_eq]
  constructor
  · rintro ⟨h1, h2⟩
    obtain ⟨x, hx, b, rfl⟩ := stepS_hT.1 h1
    have hd : dep nn u x := dep_hT hu hv h2
    have hn : ¬ dep nn v x := fun h3 => h x hx ⟨hd, h3⟩
    rw [hT_same (hf x hx) (hs x hx) hn] at h2 ⊢
    exact ⟨hx, h2⟩
  · rintro ⟨h1, h2⟩
    have hn : ¬ dep nn v y := fun h3 => h y h1 ⟨h2, h3⟩
    exact ⟨stepS_hT.2 ⟨y, h1, false, (hT_same (hf y h1) (hs y h1) hn false).symm⟩, h2⟩
theorem sup_dep {nn u : Nat} {ws : List Nat} (hf : FormN nn ws) (hu : u < nn) : (supN nn ws).testBit u = true ↔ dep nn u ws := by
  unfold supN
  rw [if_pos (frm_nat.2 hf), Int.toNat_natCast, bsum_bit, decide_eq_true hu, Bool.true_and]
  unfold depB dep loT hiT
  simp only [Bool.not_eq_true', decide_eq_false_iff_not, ne_eq]
theorem prV_bit {v w : Nat} (hv : v < 16) (hw : w < 16) (hne : w ≠ v) : ∀ (ts : List Tb) (a : Nat), (ts.foldl (pstep v) a).testBit w = true ↔ a.testBit w = true ∨ ∃ t ∈ ts, (supN t.N t.ws).testBit v = true ∧ (supN t.N t.ws).testBit w = true
  | [], a => by simp
  | t :: ts, a => by
    rw [List.foldl_cons, prV_bit hv hw hne ts]
    have hk : (pstep v a t).testBit w = true ↔ a.testBit w = true ∨ ((supN t.N t.ws).testBit v = true ∧ (supN t.N t.ws).testBit w = true) := by
      unfold pstep
      cases hb : (supN t.N t.ws).testBit v with
      | false => simp
      | true =>
        have h1 : (18446744073709551615 - 2 ^ v).testBit w = true := by
          have h2 : 18446744073709551615 - 2 ^ v = 2 ^ 64 - (2 ^ v + 1) := by omega
          rw [h2, Nat.testBit_two_pow_sub_succ (Nat.pow_lt_pow_right (by omega) (by omega)), Nat.testBit_two_pow_of_ne (fun h => hne h.symm)]
          simp
          omega
        simp [andB, Nat.testBit_or, Nat.testBit_and, h1]
    rw [hk]
    constructor
    · rintro ((h | h) | ⟨t', h1, h2⟩)
      · exact .inl h
      · exact .inr ⟨t, List.mem_cons_self, h⟩
      · exact .inr ⟨t', List.mem_cons_of_mem _ h1, h2⟩
    · rintro (h | ⟨t', h1, h2⟩)
      · exact .inl (.inl h)
      · rcases List.mem_cons.1 h1 with rfl | h1
        · exact .inl (.inr h2)
        · exact .inr ⟨t', h1, h2⟩
theorem cell_at {os : List Int} {k v : Nat} (hv : os[k]? = some (v : Int)) : (os.map Int.toNat)[k]? = some v := by rw [List.getElem?_map, hv]; rfl
theorem prl_at {xs : List Tb} {os : List Int} (he : prE xs os = 0) {k v : Nat} (hv : os[k]? = some (v : Int)) : (prL xs os)[k]? = some ((cntL os.length v (setAt os.length (tSet xs) ((os.map Int.toNat).take k)) : Nat) : Int) := by
  have hlt := lt_of_get hv
  unfold prL
  rw [if_pos he, proL, List.getElem?_map, List.getElem?_range hlt, Option.map_some, List.getD_eq_getElem?_getD, cell_at hv]
  rfl
theorem prE_swp {xs : List Tb} {os : List Int} {l : Nat} (h : l + 1 < os.length) (he : prE xs os = 0) : prE xs (swp os l) = 0 := by
  obtain ⟨h16, hper⟩ := prE_16 he
  obtain ⟨hfm, hN⟩ := fm_of_ok he
  have hp := IsPerm.swp hper h
  unfold prE
  rw [hfm, if_pos rfl, if_neg, swp_len, if_neg (by omega)]
  rintro (⟨h1, h2⟩ | h1)
  · rw [swp_len] at h2
    exact h2 (hN (List.length_pos_iff.1 h1)).symm
  · unfold chk at h1
    rw [if_pos hp] at h1
    split at h1 <;> cases h1
theorem nats_nodup {os : List Int} (h : IsPerm os) : (os.map Int.toNat).Nodup := by
  rw [List.nodup_iff_pairwise_ne, List.pairwise_map]
  refine List.Pairwise.imp_of_mem ?_ h.2
  intro a b ha hb hab he
  have h1 := h.1 a ha
  have h2 := h.1 b hb
  omega
theorem nats_lt {os : List Int} (h : IsPerm os) {k : Nat} : ∀ x ∈ (os.map Int.toNat).take k, x < os.length := fun x hx => by
  obtain ⟨y, hy, rfl⟩ := List.mem_map.1 (List.mem_of_mem_take hx)
  have := h.1 y hy
  omega
/-- the other levels keep their numbers -/
theorem loc_other {xs : List Tb} {os : List Int} {l : Nat} (h : l + 1 < os.length) (he : prE xs os = 0) {i : Nat} (h1 : i ≠ l) (h2 : i ≠ l + 1) : (prL xs (swp os l))[i]? = (prL xs os)[i]? := by
  obtain ⟨h16, hper⟩ := prE_16 he
  have hp := IsPerm.swp hper h
  rcases Nat.lt_or_ge i os.length with hi | hi
  · obtain ⟨v, hv, hvn⟩ := IsPerm.at hper hi
    have hv2 : (swp os l)[i]? = some (v : Int) := by rw [swp_at h, if_neg h1, if_neg h2, hv]
    rw [prl_at he hv, prl_at (prE_swp h he) hv2, swp_len]
    congr 2
    rcases Nat.lt_or_ge i l with hl | hl
    · have : (swp os l).take i = os.take i := by
        apply List.ext_getElem?
        intro j
        rw [List.getElem?_take, List.getElem?_take]
        split
        · rw [swp_at h, if_neg (by omega), if_neg (by omega)]
        · rfl
      rw [← List.map_take, this, List.map_take]
    · have hn1 := nats_nodup hp
      have hn2 := nats_nodup hper
      refine cnt_perm (uniq_nodup _) (hn1.sublist (List.take_sublist _ _)) (hn2.sublist (List.take_sublist _ _)) (fun x => ?_) (fun x hx => by have := nats_lt hp x hx; rwa [swp_len] at this)
      rw [← List.map_take, ← List.map_take, List.mem_map, List.mem_map]
      have hm : ∀ y, y ∈ (swp os l).take i ↔ y ∈ os.take i := fun y => by
        constructor
        · intro hy
          obtain ⟨j, hj⟩ := List.getElem?_of_mem hy
          rw [List.getElem?_take] at hj
          split at hj
          · rename_i hji
            rw [swp_at h] at hj
            refine List.mem_of_getElem? (i := if j = l then l + 1 else if j = l + 1 then l else j) ?_
            rw [List.getElem?_take]
            by_cases e1 : j = l
            · subst e1
              rw [if_pos rfl] at hj
              rw [if_pos rfl, if_pos (by omega)]; exact hj
            · by_cases e2 : j = l + 1
              · subst e2
                rw [if_neg e1, if_pos rfl] at hj
                rw [if_neg e1, if_pos rfl, if_pos (by omega)]; exact hj
              · rw [if_neg e1, if_neg e2] at hj
                rw [if_neg e1, if_neg e2, if_pos hji]; exact hj
          · cases hj
        · intro hy
          obtain ⟨j, hj⟩ := List.getElem?_of_mem hy
          rw [List.getElem?_take] at hj
          split at hj
          · rename_i hji
            refine List.mem_of_getElem? (i := if j = l then l + 1 else if j = l + 1 then l else j) ?_
            rw [List.getElem?_take]
            by_cases e1 : j = l
            · subst e1
              rw [if_pos rfl, if_pos (by omega), swp_at h, if_neg (by omega), if_pos rfl]; exact hj
            · by_cases e2 : j = l + 1
              · subst e2
                rw [if_neg e1, if_pos rfl, if_pos (by omega), swp_at h, if_pos rfl]; exact hj
              · rw [if_neg e1, if_neg e2, if_pos hji, swp_at h, if_neg e1, if_neg e2]; exact hj
          · cases hj
      exact ⟨fun ⟨y, h3, h4⟩ => ⟨y, (hm y).1 h3, h4⟩, fun ⟨y, h3, h4⟩ => ⟨y, (hm y).2 h3, h4⟩⟩
  · have e1 : (prL xs (swp os l)).length ≤ i := by have := prL_len xs (swp os l); rw [swp_len] at this; omega
    have e2 : (prL xs os).length ≤ i := by have := prL_len xs os; omega
    rw [List.getElem?_eq_none e1, List.getElem?_eq_none e2]
/-- where no function hangs on both, each takes its number along -/
theorem loc_along {xs : List Tb} {os : List Int} {l u v : Nat} (hok : ∀ t ∈ xs, Small t.ws) (he : prE xs os = 0) (hu : os[l]? = some (u : Int)) (hv : os[l + 1]? = some (v : Int)) (hap : ∀ t ∈ xs, ¬ (dep os.length u t.ws ∧ dep os.length v t.ws)) :
    (prL xs (swp os l))[l + 1]? = (prL xs os)[l]? ∧ (prL xs (swp os l))[l]? = (prL xs os)[l + 1]? := by
  obtain ⟨h16, hper⟩ := prE_16 he
  obtain ⟨hfm, hN⟩ := fm_of_ok he
  have h := lt_of_get hv
  have hul : u < os.length := by have := hper.1 _ (List.mem_of_getElem? hu); omega
  have hvl : v < os.length := by have := hper.1 _ (List.mem_of_getElem? hv); omega
  have hu2 : (swp os l)[l + 1]? = some (u : Int) := by rw [swp_at h, if_neg (by omega), if_pos rfl, hu]
  have hv2 : (swp os l)[l]? = some (v : Int) := by rw [swp_at h, if_pos rfl, hv]
  have ht : (swp os l).take l = os.take l := by
    apply List.ext_getElem?
    intro j
    rw [List.getElem?_take, List.getElem?_take]
    split
    · rw [swp_at h, if_neg (by omega), if_neg (by omega)]
    · rfl
  obtain ⟨S, hS⟩ : ∃ S, S = setAt os.length (tSet xs) ((os.map Int.toNat).take l) := ⟨_, rfl⟩
  have hFN : ∀ ws ∈ tSet xs, FormN os.length ws := tSet_form hfm hN
  have hSM : ∀ ws ∈ tSet xs, Small ws := fun ws hw => by
    obtain ⟨t, ht, rfl⟩ := List.mem_map.1 (mem_uniq.1 hw)
    exact hok t ht
  have hSn : S.Nodup := by rw [hS]; exact setAt_nodup _ (uniq_nodup _)
  have hSf : ∀ x ∈ S, FormN os.length x := by rw [hS]; exact setAt_form h16 _ hFN
  have hSs : ∀ x ∈ S, Small x := by rw [hS]; exact setAt_small _ hSM
  have hSa : ∀ x ∈ S, ¬ (dep os.length u x ∧ dep os.length v x) := by
    rw [hS]
    refine apart_set hul hvl _ (nats_lt hper) fun x hx => ?_
    obtain ⟨t, ht, rfl⟩ := List.mem_map.1 (mem_uniq.1 hx)
    exact hap t ht
  have t1 : (os.map Int.toNat).take (l + 1) = (os.map Int.toNat).take l ++ [u] := by rw [List.take_add_one, cell_at hu]; rfl
  have t2 : ((swp os l).map Int.toNat).take l = (os.map Int.toNat).take l := by rw [← List.map_take, ht, List.map_take]
  have t3 : ((swp os l).map Int.toNat).take (l + 1) = (os.map Int.toNat).take l ++ [v] := by rw [List.take_add_one, cell_at hv2, t2]; rfl
  rw [prl_at (prE_swp h he) hu2, prl_at he hu, prl_at (prE_swp h he) hv2, prl_at he hv, swp_len, t1, t2, t3, setAt_snoc, setAt_snoc, ← hS, cnt_along hul hvl hSn hSf hSs hSa, cnt_along hvl hul hSn hSf hSs (fun x hx h => hSa x hx ⟨h.2, h.1⟩)]
  exact ⟨rfl, rfl⟩
end Go.Proofs.Ytakepdkokjecoaa


/- Shape: DocPairs. -/
namespace Go.Proofs.Ytakepdkokjecoaa
open Go.RowKit Go.Tk Go.Maps

theorem doc_nn {xs : List Tb} (h : fm xs = true) : ∃ nn : Nat, ckN xs 0 = (nn : Int) ∧ nn ≤ 16 ∧ paR xs = prRow nn xs ∧ ∀ t ∈ xs, t.N = (nn : Int) ∧ FormN nn t.ws := by
  by_cases hx : xs = []
  · subst hx
    exact ⟨0, by unfold ckN; rw [h]; rfl, by omega, rfl, fun t ht => by cases ht⟩
  · obtain ⟨t0, ht0⟩ : ∃ t, xs[0]? = some t := ⟨_, List.getElem?_eq_getElem (List.length_pos_iff.2 hx)⟩
    have h0 := (fm_all h t0 (List.mem_of_getElem? ht0)).1
    have hd0 : tN0 xs = t0.N := by unfold tN0; rw [List.getD_eq_getElem?_getD, ht0]; rfl
    obtain ⟨nn, hnn, hfn⟩ := frm_true h0
    refine ⟨nn, by unfold ckN; rw [h, if_pos rfl, if_neg hx, hd0, hnn], hfn.n16, by unfold paR; rw [if_pos ⟨h, hx⟩, hd0, hnn]; rfl, fun t ht => ?_⟩
    obtain ⟨h1, h2⟩ := fm_all h t ht
    have h3 : t.N = (nn : Int) := by rw [h2, hd0, hnn]
    exact ⟨h3, frm_nat.1 (by rw [← h3]; exact h1)⟩
set_option maxRecDepth 100000 in
set_option maxHeartbeats 16000000 in
theorem docPairs5_any (AL : Option Addr) (n C : Nat) (xs : List Tb) (w : World) (h : Sl w 2 Tb.cells AL n xs) (hok : ∀ t ∈ xs, TbOk w t) (hn : n ≤ 8796093022210) :
    Calls Try.prog 18 #[.slice AL n C] w fun e w' => ∃ A D, e = .returned (.tuple #[.slice A (paR xs).length D, .int .i64 (paE xs)]) ∧ NewT w (paR xs) A D w' := by
  have H := Lib.hid h
  have HOK := Lib.hid hok
  have HXL := Lib.hid h.len
  clear h hok
  obtain ⟨r, hr⟩ : ∃ r, fm xs = r := ⟨_, rfl⟩
  go_enter Try.func18, Try.ntmps18
  go_wp2_with (fail)
  refine (dcheck_any AL n C xs 0 w H.out (by omega) HOK.out).mono ?_
  rintro e w1 ⟨rfl, hs⟩
  have HS := Lib.hid hs
  clear hs
  cases r with
  | false =>
    have hE : paE xs = 5 := by unfold paE; rw [hr]; rfl
    have HR := Lib.hid (show paR xs = [] by unfold paR; rw [if_neg (by rw [hr]; simp)])
    have HE := Lib.hid hE
    rw [hE, show ckN xs 0 = 0 by unfold ckN; rw [hr]; rfl]
    clear hr hE
    go_wp2
    go_ret2
    exact ⟨none, 0, by rw [HR.out, HE.out]; rfl, by rw [HR.out]; exact NewT.nil HS.out⟩
  | true =>
    have HFM := Lib.hid hr
    have hE : paE xs = 0 := by unfold paE; rw [hr]; rfl
    rw [hE]
    have HE := Lib.hid hE
    obtain ⟨nn, hcn, hn16, hR, hall⟩ := doc_nn hr
    rw [hcn]
    have HR := Lib.hid hR
    have HALL := Lib.hid hall
    have hmk := fun w => run_make_n (P := Try.prog) Try.underlying35 info_u64 .i64 .i64 nn (show 8 * nn ≤ 281474976710656 by omega) (show nn ≤ 9223372036854775807 by omega) w
    clear hr hE hcn hR hall
    go_upto_region 5 with fail
    refine wp_world fun w2 hw => ?_
    have hs2 : Same w1 w2 := by rw [hw]; exact (Frm.refl _ _).alloc _
    have hO := Own.ofMade (m := 1) w1 30 ucell (fun _ => rfl) (by decide) 0 nn (show nn ≤ 9223372036854775807 by omega) rfl
    have hw2 : w2 = w1.alloc (.cells (madeCells (ucell 0).toArray (nn * 1)) 30) := by rw [hw]; simp [ucell]
    rw [← hw2] at hO
    have hgw : w.heap.size ≤ w1.heap.size := HS.out.size
    obtain ⟨G, hG⟩ : ∃ z, z = w1.heap.size := ⟨_, rfl⟩
    rw [← hG] at hO hgw ⊢
    have HS2 := Lib.hid (HS.out.trans hs2 (fun _ _ h => h))
    have HO := Lib.hid hO
    clear hw hw2 hG hs2 hO hmk HS
    go_wp2
    go_loopw [23] (fun i wi => ∃ k : Nat, k ≤ n ∧ i = .int .i64 k ∧ Same w wi ∧ OwnW wi (some ⟨G, 0, none⟩) nn nn (prRow nn (xs.take k))) (fun i _ => n - (intOf i).toNat)
    case atStart => exact ⟨0, by omega, rfl, HS2.out, by rw [List.take_zero, prRow_nil]; exact HO.out⟩
    case round =>
      obtain ⟨k, hk, rfl, hs, ho⟩ := hrel
      clear HS2 HO
      by_cases hlt : k < n
      · obtain ⟨t, ht⟩ : ∃ t, xs[k]? = some t := ⟨_, List.getElem?_eq_getElem (by rw [← HXL.out]; exact hlt)⟩
        obtain ⟨bl, o, hA, hbl, hc⟩ := (Sl.same H.out hs).get k t ht
        subst hA
        have c0 : wr.cell? ⟨bl, o + k * 2, none⟩ = some (.int .i64 t.N) := hc 0 (by omega)
        have c1 : wr.cell? ⟨bl, o + k * 2 + 1, none⟩ = some (.slice t.A t.ws.length t.C) := hc 1 (by omega)
        have HTK := Lib.hid (show xs.take (k + 1) = xs.take k ++ [t] by rw [List.take_add_one, ht]; rfl)
        have HTO := Lib.hid ((HOK.out t (List.mem_of_getElem? ht)).same hs)
        obtain ⟨hTn, hTf⟩ := HALL.out t (List.mem_of_getElem? ht)
        have HFR := Lib.hid hTf
        have HTN := Lib.hid hTn
        have hk0 : (0 : Int) ≤ k := by omega
        have hk1 : (k : Int) < n := by omega
        have HS := Lib.hid hs
        have HO := Lib.hid ho
        clear hc ht hs ho hTn hTf
        obtain ⟨tN, tA, tC, tw⟩ := t
        simp only at c0 c1 HTN HFR
        obtain rfl := HTN.out
        go_upto_region 8 with fail
        refine wp_world fun w3 hw => ?_
        have hs3 : Same wr w3 := by rw [hw]; exact (Frm.refl _ _).alloc _
        have hBX : Blk w3 wr.heap.size 37 #[.int .i64 (nn : Int), .slice tA tw.length tC] := by rw [hw]; exact Blk.new _ _ _
        obtain ⟨X, hX⟩ : ∃ z, z = wr.heap.size := ⟨_, rfl⟩
        rw [← hX] at hBX ⊢
        have cX0 : w3.cell? ⟨X, 0, none⟩ = some (.int .i64 (nn : Int)) := hBX.cell 0
        have cX1 : w3.cell? ⟨X, 1, none⟩ = some (.slice tA tw.length tC) := hBX.cell 1
        have lX := hBX.lt
        replace HS := Lib.hid (HS.out.trans hs3 (fun _ _ h => h))
        replace HO := Lib.hid (Own.frm HO.out hs3 (fun _ _ => id))
        replace HTO := Lib.hid (HTO.out.same hs3)
        clear hw hX hBX hs3 c0 c1 hbl
        go_wp2_with (fail)
        refine (support5_any nn tA tC tw w3 HTO.out HFR.out).mono ?_
        rintro e w4 ⟨rfl, hs⟩
        replace HS := Lib.hid (HS.out.trans hs (fun _ _ h => h))
        replace HO := Lib.hid (Own.frm HO.out hs (fun _ _ => id))
        clear hs cX0 cX1 lX HTO
        obtain ⟨s, hsd⟩ : ∃ z, z = supN (nn : Int) tw := ⟨_, rfl⟩
        have HSD := Lib.hid hsd
        have hs16 : s < 65536 := by rw [hsd]; exact supN_lt _ _
        rw [← hsd]
        clear hsd
        go_wp2
        obtain ⟨wo, rfl⟩ : ∃ z, z = w4 := ⟨_, rfl⟩
        obtain ⟨ts, hts⟩ : ∃ z, z = xs.take k := ⟨_, rfl⟩
        rw [← hts] at HO HTK
        clear hts
        go_loopw [10] (fun i wi => ∃ v : Nat, v ≤ nn ∧ i = .int .i64 v ∧ Same w wi ∧ OwnW wi (some ⟨G, 0, none⟩) nn nn (mixR nn ts ⟨(nn : Int), tA, tC, tw⟩ v)) (fun i _ => nn - (intOf i).toNat)
        case atStart => exact ⟨0, by omega, rfl, HS.out, by rw [mixR_zero]; exact HO.out⟩
        case round =>
          clear HS HO
          obtain ⟨v, hv, rfl, hs, ho⟩ := hrel
          by_cases hlv : v < nn
          · have hv0 : (0 : Int) ≤ v := by omega
            have hv1 : (v : Int) < nn := by omega
            by_cases hbt : s.testBit v = true
            · have hbi : (((s : Int) / 2 ^ v).tmod 2 == 1) = true := by rw [rem_nat]; exact hbt
              obtain ⟨s0, h0, hgl, cc⟩ := Own.at1 (c := fun x : Nat => .int .u64 (x : Int)) ho (mixR_get hlv)
              injection h0 with h0
              injection h0 with h0
              subst h0
              have fz := Own.free ho v
              obtain ⟨a, ha⟩ : ∃ z, z = prV ts v := ⟨_, rfl⟩
              have ha16 : a < 65536 := by rw [ha]; exact prV_lt v ts 0 (by omega)
              have hai := andB_int (v := v) ha16 hs16 (by omega)
              have hst : prV (ts ++ [⟨(nn : Int), tA, tC, tw⟩]) v = a ||| andB s v := by
                rw [prV_snoc, pstep, ← HSD.out, if_pos hbt, ← ha]
              have HP := Lib.hid (Own.put1 (c := fun x : Nat => .int .u64 (x : Int)) ho (i := v) (by rw [mixR_len]; exact hlv) (prV (ts ++ [⟨(nn : Int), tA, tC, tw⟩]) v))
              rw [mixR_set hlv, hst] at HP
              rw [← ha] at cc
              have HSV := Lib.hid (hs.setNew v (.int .u64 ((a ||| andB s v : Nat) : Int)) hgw)
              clear ha hst hs ho hbt ha16
              go_upto_region 13 with fail
              go_region
              have HO2 := Lib.hid (Own.frm HP.out ((Frm.refl (fun _ => False) _).drew) (fun _ _ => id))
              have HS2 := Lib.hid HSV.out.drew
              clear HP HSV
              generalize (wr.setCell ⟨G, v, none⟩ (.int .u64 ((a ||| andB s v : Nat) : Int))).drew = wz at HO2 HS2 ⊢
              go_wp2
              go_roundw
              case rel => exact ⟨v + 1, by omega, by go_num, HS2.out, HO2.out⟩
              case measure => simp [intOf] <;> omega
            · have hbi : (((s : Int) / 2 ^ v).tmod 2 == 1) = false := by rw [rem_nat]; simpa using hbt
              have hbf : (supN (nn : Int) tw).testBit v = false := by rw [← HSD.out]; simpa using hbt
              have HO := Lib.hid (show OwnW wr (some ⟨G, 0, none⟩) nn nn (mixR nn ts ⟨(nn : Int), tA, tC, tw⟩ (v + 1)) by rw [← mixR_skip hbf]; exact ho)
              have HS := Lib.hid hs
              clear hbf hbt hs ho
              go_wp2
              go_roundw
              case rel => exact ⟨v + 1, by omega, by go_num, HS.out, HO.out⟩
              case measure => simp [intOf] <;> omega
          · obtain rfl : v = nn := by omega
            have HO := Lib.hid (show OwnW wr (some ⟨G, 0, none⟩) v v (prRow v (xs.take (k + 1))) by rw [HTK.out, ← mixR_all]; exact ho)
            have HS := Lib.hid hs
            clear hs ho
            go_wp2
            go_roundw
            case rel => exact ⟨k + 1, by omega, by go_num, HS.out, HO.out⟩
            case measure => simp [intOf] <;> omega
      · obtain rfl : k = n := by omega
        rw [List.take_of_length_le (by rw [← HXL.out]; exact Nat.le_refl _)] at ho
        have HO := Lib.hid ho
        have HS := Lib.hid hs
        clear ho hs
        go_wp2
        go_ret2
        exact ⟨some ⟨G, 0, none⟩, nn, by rw [HE.out, HR.out, prRow_len]; rfl, by rw [HR.out, NewT, prRow_len]; exact ⟨HO.out, fresh_some hgw, HS.out⟩⟩
end Go.Proofs.Ytakepdkokjecoaa


/- Shape: sets: are two lists of words alike? -/
namespace Go.Proofs.Ytakepdkokjecoaa
open Go.RowKit Go.Tk
set_option maxHeartbeats 1000000 in
theorem sets_any (A B : Option Addr) (n m C D : Nat) (xs ys : List Nat) (w : World) (h : WL w A n xs) (h2 : WL w B m ys) (hr : n * 8 ≤ 140737488351232) (hr2 : m * 8 ≤ 140737488351232) :
    Calls Try.prog 19 #[.slice A n C, .slice B m D] w fun e w' => e = .returned (.bool (decide (xs = ys))) ∧ Same w w' := by
  obtain rfl := h.len
  obtain rfl := h2.len
  have H := Lib.hid h
  have H2 := Lib.hid h2
  clear h h2
  by_cases hl : xs.length = ys.length
  · have hl1 : xs.length ≤ ys.length := by omega
    have hl2 : ys.length ≤ xs.length := by omega
    have hl' : ((xs.length : Int) != (ys.length : Int)) = false := by simp [hl]
    have HL := Lib.hid hl
    clear hl
    go_enter Try.func19, Try.ntmps19
    go_wp2
    go_loopw [5] (fun i wr => ∃ k : Nat, k ≤ xs.length ∧ i = .int .i64 k ∧ xs.take k = ys.take k ∧ Same w wr) (fun i _ => xs.length - (intOf i).toNat)
    case atStart => exact ⟨0, by omega, rfl, rfl, Frm.refl _ _⟩
    case round =>
      obtain ⟨k, hk, rfl, he, hs⟩ := hrel
      by_cases hlt : k < xs.length
      · obtain ⟨x, hx⟩ : ∃ x, xs[k]? = some x := ⟨_, List.getElem?_eq_getElem hlt⟩
        obtain ⟨y, hy⟩ : ∃ y, ys[k]? = some y := ⟨_, List.getElem?_eq_getElem (by omega)⟩
        obtain ⟨b, off, rfl, hb, hc⟩ := WL.at1 (Sl.same H.out hs) hx
        obtain ⟨b2, off2, rfl, hb2, hc2⟩ := WL.at1 (Sl.same H2.out hs) hy
        have hi0 : (0 : Int) ≤ k := by omega
        have hi1 : (k : Int) < xs.length := by omega
        have hi2 : (k : Int) < ys.length := by omega
        have HX := Lib.hid hx
        have HY := Lib.hid hy
        have HE := Lib.hid he
        have HS := Lib.hid hs
        clear hx hy he hs
        by_cases hxy : x = y
        · subst hxy
          have heq : ((x : Int) != (x : Int)) = false := by simp
          go_wp2
          refine wp_quiet (by kernel_rfl) (by kernel_rfl) ?_
          repeat (any_goals (first | go_big_quiet_step (fail) | quiet_step (fail)))
          refine wpQuiet_nil ?_
          rintro _ ⟨q, rfl⟩
          have HS2 := Lib.hid (HS.out.trans (more_same _ q) (fun _ _ h => h))
          go_wp2
          go_roundw
          case rel => exact ⟨k + 1, by omega, by go_num, by rw [take_snoc HX.out, take_snoc HY.out, HE.out], HS2.out⟩
          case measure => simp [intOf] <;> omega
        · have hne : ((x : Int) != (y : Int)) = true := by simp <;> omega
          have hfin : decide (xs = ys) = false := by
            rw [decide_eq_false_iff_not]
            rintro rfl
            exact hxy (Option.some.inj (HX.out.symm.trans HY.out))
          have HFIN := Lib.hid hfin
          clear hxy hfin
          go_wp2
          refine wp_quiet (by kernel_rfl) (by kernel_rfl) ?_
          repeat (any_goals (first | go_big_quiet_step (fail) | quiet_step (fail)))
          refine wpQuiet_nil ?_
          rintro _ ⟨q, rfl⟩
          have HS2 := Lib.hid (HS.out.trans (more_same _ q) (fun _ _ h => h))
          go_wp2
          go_ret
          exact ⟨ret_bool HFIN.out.symm, HS2.out⟩
      · obtain rfl : k = xs.length := by omega
        have hfin : decide (xs = ys) = true := by
          rw [decide_eq_true_iff]
          rw [List.take_of_length_le (Nat.le_refl _), List.take_of_length_le (by omega)] at he
          exact he
        have HFIN := Lib.hid hfin
        clear he hfin
        go_wp2
        go_ret
        exact ⟨ret_bool HFIN.out.symm, hs⟩
  · have hl' : ((xs.length : Int) != (ys.length : Int)) = true := by simp <;> omega
    have hfin : decide (xs = ys) = false := by
      rw [decide_eq_false_iff_not]
      rintro rfl
      exact hl rfl
    have HFIN := Lib.hid hfin
    clear hl hfin
    go_enter Try.func19, Try.ntmps19
    go_wp2
    go_ret
    exact ⟨ret_bool HFIN.out.symm, Frm.refl _ _⟩

end Go.Proofs.Ytakepdkokjecoaa


/- Shape: ShapePairs: the walk. -/
namespace Go.Proofs.Ytakepdkokjecoaa
open Go.RowKit Go.Tk Go.Maps

theorem paR_len (xs : List Tb) : (paR xs).length ≤ 16 := by
  unfold paR
  split
  · rename_i h
    obtain ⟨nn, _, h2, h3, _⟩ := doc_nn h.1
    have h4 : paR xs = prRow (tN0 xs).toNat xs := by unfold paR; rw [if_pos h]
    rw [← h4, h3, prRow_len]
    exact h2
  · simp
set_option maxRecDepth 100000 in
set_option maxHeartbeats 4000000 in
theorem prs_walk (AL : Option Addr) (n C : Nat) (xs : List Tb) (w : World) (h : Sl w 2 Tb.cells AL n xs) (hok : ∀ t ∈ xs, TbOk w t) (hn : n ≤ 8796093022210) :
    Calls Try.prog 6 #[.slice AL n C] w fun e w' => e = .returned (.bool true) ∧ Below w.heap.size w w' := by
  have HPA := Lib.hid (fun w' (hs : Same w w') => pairs_any AL n C xs w' (Sl.same h hs) (fun t ht => (hok t ht).same hs) hn)
  have HPD := Lib.hid (fun w' (hs : Same w w') => docPairs5_any AL n C xs w' (Sl.same h hs) (fun t ht => (hok t ht).same hs) hn)
  have HZL := Lib.hid (paR_len xs)
  obtain ⟨zs, hzs⟩ : ∃ z, z = paR xs := ⟨_, rfl⟩
  obtain ⟨er, her⟩ : ∃ z, z = paE xs := ⟨_, rfl⟩
  rw [← hzs, ← her] at HPA HPD
  rw [← hzs] at HZL
  have hee : (er == er) = true := by simp
  clear h hok hzs her
  go_enter Try.func6, Try.ntmps6
  go_wp2_with (fail)
  refine (sawake_any w).mono ?_
  rintro e w1 ⟨rfl, hs⟩
  have HS := Lib.hid hs
  clear hs
  go_wp2_with (fail)
  refine (HPA.out w1 HS.out).mono ?_
  rintro e w2 ⟨Aa, Da, rfl, hNT⟩
  have HWA := Lib.hid hNT.wl
  replace HS := Lib.hid (HS.out.trans hNT.2.2 (fun _ _ h => h))
  clear hNT HPA
  go_wp2_with (fail)
  refine (HPD.out w2 HS.out).mono ?_
  rintro e w3 ⟨Ab, Db, rfl, hNT⟩
  have HWB := Lib.hid hNT.wl
  replace HWA := Lib.hid (Sl.same HWA.out hNT.2.2)
  replace HS := Lib.hid (HS.out.trans hNT.2.2 (fun _ _ h => h))
  clear hNT HPD
  go_wp2_with (fail)
  refine (sets_any Aa Ab zs.length zs.length Da Db zs zs w3 HWA.out HWB.out (by have := HZL.out; omega) (by have := HZL.out; omega)).mono ?_
  rintro e w4 ⟨rfl, hs⟩
  rw [show decide (zs = zs) = true by simp]
  have HFIN := Lib.hid ((HS.out.trans hs (fun _ _ h => h)).to_below (Nat.le_refl _) (fun _ _ => id))
  clear hs
  go_wp2
  go_ret
  exact ⟨rfl, HFIN.out⟩
end Go.Proofs.Ytakepdkokjecoaa


/- The walk of ShPrs beside the given rows. -/
namespace Go.Proofs.Ytakepdkokjecoaa
open Go.RowKit Go.Tk
theorem sl_vals {w : World} {A : Option Addr} {n : Nat} {xs : List {t : Tb // TbIn w t}} (h : Sl w 2 (fun x : {t : Tb // TbIn w t} => x.1.cells) A n xs) : Sl w 2 Tb.cells A n (xs.map (·.1)) := by
  refine ⟨by rw [List.length_map]; exact h.len, fun i t hi => ?_⟩
  rw [List.getElem?_map] at hi
  obtain ⟨x, hx, rfl⟩ := Option.map_eq_some_iff.1 hi
  exact h.get i x hx
theorem ok_vals {w : World} {xs : List {t : Tb // TbIn w t}} : ∀ t ∈ xs.map (·.1), TbOk w t := fun t ht => by
  obtain ⟨x, _, rfl⟩ := List.mem_map.1 ht
  exact x.2.ok
end Go.Proofs.Ytakepdkokjecoaa
