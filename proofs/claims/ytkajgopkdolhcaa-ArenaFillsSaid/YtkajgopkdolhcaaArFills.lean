/- An arena takes as many nodes as it has places: the walk. -/
import Derived.Test.YtkajgopkdolhcaaArAwake
namespace Go.Proofs.Ytkajgopkdolhcaa
open Go.RowKit Go.Tk

def fillP (j : Nat) : Pl := ⟨⟨(j : Int) % 64, if j = 0 then 0 else (j : Int) + 1, 1⟩, true, 0⟩
def fillL (i : Nat) : List Pl := l01 ++ (List.range i).map fillP
def refL (i : Nat) : List Int := (List.range i).map (fun j : Nat => (j : Int) + 2)
theorem fillL_len (i : Nat) : (fillL i).length = 2 + i := by simp [fillL, l01]; omega
theorem refL_len (i : Nat) : (refL i).length = i := by simp [refL]
theorem fillL_succ (i : Nat) : fillL (i + 1) = fillL i ++ [fillP i] := by simp [fillL, List.range_succ]
theorem refL_succ (i : Nat) : refL (i + 1) = refL i ++ [(i : Int) + 2] := by simp [refL, List.range_succ]
theorem refL_get {i j : Nat} (h : j < i) : (refL i)[j]? = some ((j : Int) + 2) := by simp [refL, h]
theorem fillL_get {i j : Nat} (h : j < i) : (fillL i)[j + 2]? = some (fillP j) := by
  unfold fillL
  rw [List.getElem?_append_right (by simp [l01])]
  simp [l01, h]
theorem fillL_tk {i : Nat} {r : Int} (h0 : 0 ≤ r) (h1 : r < 2 + i) : tk (fillL i) r = true := by
  unfold tk
  obtain ⟨n, rfl⟩ := Int.eq_ofNat_of_zero_le h0
  rw [Int.toNat_natCast]
  match n, h1 with
  | 0, _ => simp [fillL, l01, cpl]
  | 1, _ => simp [fillL, l01, cpl]
  | n + 2, h1 => rw [fillL_get (by omega)]; rfl
theorem fill_ck {i : Nat} : ckN (fillL i) (fillP i).n = 0 := by
  have h1 : 0 ≤ (i : Int) % 64 := Int.emod_nonneg _ (by decide)
  have h2 : (i : Int) % 64 < 64 := Int.emod_lt_of_pos _ (by decide)
  unfold ckN fillP
  simp only
  rw [if_neg (by omega), if_neg]
  rintro (h | h)
  · rw [fillL_tk] at h
    · cases h
    · split <;> omega
    · split <;> omega
  · rw [fillL_tk (by decide) (by omega)] at h
    cases h

theorem set_tk {ls : List Pl} {q : Nat} {x : Pl} {r : Int} (h0 : 0 ≤ r) (hne : r ≠ q) : tk (ls.set q x) r = tk ls r := by
  unfold tk
  rw [List.getElem?_set, if_neg (by omega)]
theorem set_getN {ls : List Pl} {q : Nat} {x : Pl} {r : Int} (h0 : 0 ≤ r) (hne : r ≠ q) : getN (ls.set q x) r = getN ls r := by
  unfold getN
  rw [List.getElem?_set, if_neg (by omega)]
theorem fill_getN {i j : Nat} (h : j < i) : getN (fillL i) ((j : Int) + 2) = (fillP j).n := by
  unfold getN
  rw [show ((j : Int) + 2).toNat = j + 2 by omega, fillL_get h]
  rfl
def fin3 (M G : Nat) : List Pl := ((fillL M).set (G + 2) zPl).set (G + 2) ⟨⟨63, 1, 0⟩, true, 0⟩
theorem fin3_own {M G : Nat} (h : G < M) : getN (fin3 M G) ((G : Int) + 2) = ⟨63, 1, 0⟩ ∧ getE (fin3 M G) ((G : Int) + 2) = 0 := by
  have hl := fillL_len M
  have hg : (fin3 M G)[((G : Int) + 2).toNat]? = some ⟨⟨63, 1, 0⟩, true, 0⟩ := by
    rw [show ((G : Int) + 2).toNat = G + 2 by omega]
    unfold fin3
    rw [List.getElem?_set, if_pos rfl, if_pos (by simp; omega)]
  unfold getN getE tk
  rw [hg]
  exact ⟨rfl, rfl⟩
theorem fin3_other {M G j : Nat} (hj : j < M) (hne : j ≠ G) : getN (fin3 M G) ((j : Int) + 2) = (fillP j).n ∧ getE (fin3 M G) ((j : Int) + 2) = 0 := by
  unfold fin3
  refine ⟨?_, ?_⟩
  · rw [set_getN (by omega) (by omega), set_getN (by omega) (by omega), fill_getN hj]
  · unfold getE
    rw [set_tk (by omega) (by omega), set_tk (by omega) (by omega), fillL_tk (by omega) (by omega)]
    rfl

set_option maxRecDepth 100000 in
set_option maxHeartbeats 4000000 in
theorem fills_walk (p f : Int) (w : World) :
    Calls Try.prog 3 #[.int .i64 p, .int .i64 f] w fun e w' => e = .returned (.bool true) ∧ Below w.heap.size w w' := by
  obtain ⟨hu0, hu1⟩ := bounds_u64 (wf_wrap .u64 p)
  obtain ⟨hv0, hv1⟩ := bounds_u64 (wf_wrap .u64 f)
  go_enter Try.func3, Try.ntmps3
  go_wp2_with (fail)
  refine (awake_any w).mono ?_
  rintro e w1 ⟨rfl, hs1⟩
  go_wp2_with (fail)
  obtain ⟨M, hM⟩ : ∃ M : Nat, IntKind.u64.wrap p % 200 = (M : Int) := ⟨(IntKind.u64.wrap p % 200).toNat, by omega⟩
  have hM2 : M < 200 := by omega
  rw [hM]
  clear hM hu0 hu1
  refine (new_ok (2 + (M : Int)) w1 (by omega) (by omega)).mono ?_
  rintro e w2 ⟨rfl, A, C, h2, hs2, hA2⟩
  have hz := hs1.size
  have hb0 : Below w.heap.size w w2 := (hs1.trans hs2 (fun _ _ h => h)).to_below (Nat.le_refl _) (fun _ _ => id)
  have hA0 : Fresh w.heap.size A := fun b hb => Nat.le_trans hz (hA2 b hb)
  clear hs1 hs2 hA2
  generalize w1.heap.size = g at *
  go_wp2_with (fail)
  go_loopw [7, 44] (fun v i wr => ∃ (k : Nat) (A : Option Addr) (C : Nat) (R : Option Addr) (D : Nat), k ≤ M ∧ i = .int .i64 k ∧ v = .slice R k D ∧ ASt wr g (2 + (M : Int)) (2 + (k : Int)) (fillL k) [] A C none 0 ∧
    Row1 wr 30 rc R k D (refL k) ∧ Fresh w.heap.size A ∧ Fresh w.heap.size R ∧ Below w.heap.size w wr) (fun _ i _ => M - (intOf i).toNat)
  case atStart => exact ⟨0, A, C, none, 0, by omega, rfl, rfl, h2, Own.nil _ _ _ _, hA0, fresh_none _, hb0⟩
  case round =>
    clear h2 hA0 hb0
    obtain ⟨k, A, C, R, D, hk, rfl, rfl, hst, hR, hA, hRf, hbr⟩ := hrel
    by_cases hlt : k < M
    · have hi0 : (0 : Int) ≤ k := by omega
      have hi1 : (k : Int) < M := by omega
      have H := Lib.hid hst
      have HR := Lib.hid hR
      have HA := Lib.hid hA
      have HRF := Lib.hid hRf
      have HB := Lib.hid hbr
      have HC : Hid (∀ L : Int, (L = if k = 0 then 0 else (k : Int) + 1) → ∀ w', Same wr w' → Calls Try.prog 9 #[.pointer (some ⟨g, 0, none⟩), .agg #[.int .i64 ((k : Int) % 64), .int .u32 L, .int .u32 1]] w' fun e w'' =>
          e = .returned (.tuple #[.int .u32 ((k : Int) + 2), .int .i64 0]) ∧ ∃ A2 C2, ASt w'' g (2 + (M : Int)) (2 + ((k : Int) + 1)) (fillL (k + 1)) [] A2 C2 none 0 ∧ Frm (AFp g A none) w' w'' ∧ (∀ b, rowOf A2 b → rowOf A b ∨ w'.heap.size ≤ b)) := by
        intro L hL w' hs'
        subst hL
        have hlen := fillL_len k
        have hlo : (fillP k).n = ⟨(k : Int) % 64, if k = 0 then 0 else (k : Int) + 1, 1⟩ := rfl
        have h := alloc_push (hst.frm hs' (fun _ _ => id)) (fillP k).n (by rw [hlo]; simp only; split <;> omega) (by rw [hlo]; simp only; split <;> omega) (show (0 : Int) ≤ 1 by decide) (show (1 : Int) < 4294967296 by decide) fill_ck (by omega) (by omega) (by omega)
        rw [← show fillL (k + 1) = fillL k ++ [⟨(fillP k).n, true, 0⟩] from fillL_succ k, show (((fillL k).length : Nat) : Int) = (k : Int) + 2 by omega, show (2 + (k : Int) + 1) = 2 + ((k : Int) + 1) by omega] at h
        exact h
      have hcase : (k = 0 ∧ ¬ (0 : Int) < k) ∨ (k ≠ 0 ∧ (0 : Int) < k) := by
        rcases Nat.eq_zero_or_pos k with h | h
        · exact .inl ⟨h, by omega⟩
        · exact .inr ⟨by omega, by omega⟩
      have hcell : k ≠ 0 → ∃ rb, R = some ⟨rb, 0, none⟩ ∧ rb < wr.heap.size ∧ wr.cell? ⟨rb, k - 1, none⟩ = some (.int .u32 ((k : Int) + 1)) := by
        intro h
        obtain ⟨rb, h1, h2, h3⟩ := hR.at1 (refL_get (show k - 1 < k by omega))
        refine ⟨rb, h1, h2, ?_⟩
        rw [h3]
        unfold rc
        congr 2
        omega
      clear hst hR hA hRf hbr
      rcases hcase with ⟨h0, hgt⟩ | ⟨h0, hgt⟩
      · have h0' := Lib.hid h0
        clear h0 hcell
        go_wp2_with (fail)
        refine (HC.out _ (by rw [if_pos h0'.out]) _ (Frm.refl _ _)).mono ?_
        rintro e w2 ⟨rfl, A2, C2, h2, hf2, hA2⟩
        have hR2 : Row1 w2 30 rc R k D (refL k) := HR.out.frm hf2 (by
          rintro a ha (h | h | ⟨_, h, _⟩)
          · exact HR.out.ne_blk H.out.blk (by decide) a ha h
          · exact H.out.own.ne_own HR.out (by decide) _ h ⟨a, ha, rfl⟩
          · cases h)
        have hb2 : Below w.heap.size w w2 := HB.out.trans (hf2.to_below HB.out.size (by
          rintro i hi (h | h | ⟨_, h, _⟩)
          · omega
          · have := HA.out i h; omega
          · cases h))
        have hA2' : Fresh w.heap.size A2 := by
          intro b hb
          rcases hA2 b hb with h | h
          · exact HA.out b h
          · have := HB.out.size; omega
        have H2 := Lib.hid h2
        have HR2 := Lib.hid hR2
        have HB2 := Lib.hid hb2
        have HA2 := Lib.hid hA2'
        clear h2 hR2 hb2 hA2' hf2 hA2 HC H HR HA HB
        go_wp2_with (fail)
        obtain ⟨w2o, rfl⟩ : ∃ x : World, x = w2 := ⟨_, rfl⟩
        go_loop [77] (fun i => ∃ j : Nat, j ≤ k ∧ i = .int .i64 j) (fun i => k - (intOf i).toNat)
        case atStart => exact ⟨0, by omega, rfl⟩
        case round =>
          obtain ⟨j, hj, rfl⟩ := hrel
          by_cases hlj : j < k
          · obtain ⟨rq, hRq, hrq, hrcq⟩ := HR2.out.at1 (refL_get hlj)
            have hrcq' : w2o.cell? ⟨rq, j, none⟩ = some (.int .u32 ((j : Int) + 2)) := hrcq
            subst hRq
            have hj0 : (0 : Int) ≤ j := by omega
            have hj1 : (j : Int) < k := by omega
            have hjk : ((j : Int) + 2 == (k : Int) + 2) = false := by simp; omega
            clear hrcq
            go_wp2
            go_round
            case rel => exact ⟨j + 1, by omega, by go_num⟩
            case measure => simp [intOf]; omega
          · obtain rfl : j = k := by omega
            go_wp2_with (at_builtin
                         refine Own.append_list (f := fun x => [rc x]) rfl (.tmp 85) (.tmp 87) _ rfl Try.underlying28 info_ref rfl (by omega) rfl (HR2.out.frm ((Frm.refl (fun _ => False) _).alloc _) (fun _ _ => id)) (fun _ => rfl) ((j : Int) + 2) w2o.heap.size 1 rfl (Blk.new w2o _ _) (by simp [Value.oneCell', rc]) (by rw [refL_len]; unfold maxLen; omega) (by rw [refL_len]; omega) ?_
                         intro gg cap w4 hR4 hg4 hat
                         have hL4 : Frm (fun b => rowOf R b) w2o w4 := ((Frm.refl _ _).alloc _).grown hg4 (fun g hg => .inl (ownBlock_row.1 hg))
                         have hst4 := H2.out.frm hL4 (by
                           rintro b (h | h | ⟨_, h, _⟩) ⟨a, ha, hab⟩
                           · exact HR2.out.ne_blk H2.out.blk (by decide) a ha (hab.trans h)
                           · exact H2.out.own.ne_own HR2.out (by decide) b h ⟨a, ha, hab⟩
                           · cases h)
                         have hge : w.heap.size ≤ gg := by
                           rcases hat with h | h
                           · exact HRF.out gg (ownBlock_row.1 h)
                           · have := HB2.out.size
                             simp at h
                             omega
                         have hb4 : Below w.heap.size w w4 := HB2.out.trans (hL4.to_below HB2.out.size (fun i hi h => by have := HRF.out i h; omega))
                         have H4 := Lib.hid hst4
                         have HR4 := Lib.hid hR4
                         have HB4 := Lib.hid hb4
                         clear hst4 hR4 hb4 hL4 hg4 hat H2 HR2 HB2)
            go_roundw
            case rel => exact ⟨j + 1, A2, C2, some ⟨gg, 0, none⟩, cap, by omega, by go_num, rfl, by have h := H4.out; exact h, by rw [refL_succ]; exact HR4.out, HA2.out, fresh_some hge, HB4.out⟩
            case measure => simp [intOf]; omega
      · obtain ⟨rb, hRb, hrb, hrc⟩ := hcell h0
        have h0' := Lib.hid h0
        have hk1 : 1 ≤ (k : Int) := by omega
        have hk2 : (k : Int) - 1 < k := by omega
        subst hRb
        clear h0 hcell
        go_wp2_with (fail)
        refine (HC.out _ (by rw [if_neg h0'.out]) _ (Frm.refl _ _)).mono ?_
        rintro e w2 ⟨rfl, A2, C2, h2, hf2, hA2⟩
        have hR2 : Row1 w2 30 rc (some ⟨rb, 0, none⟩) k D (refL k) := HR.out.frm hf2 (by
          rintro a ha (h | h | ⟨_, h, _⟩)
          · exact HR.out.ne_blk H.out.blk (by decide) a ha h
          · exact H.out.own.ne_own HR.out (by decide) _ h ⟨a, ha, rfl⟩
          · cases h)
        have hb2 : Below w.heap.size w w2 := HB.out.trans (hf2.to_below HB.out.size (by
          rintro i hi (h | h | ⟨_, h, _⟩)
          · omega
          · have := HA.out i h; omega
          · cases h))
        have hA2' : Fresh w.heap.size A2 := by
          intro b hb
          rcases hA2 b hb with h | h
          · exact HA.out b h
          · have := HB.out.size; omega
        have H2 := Lib.hid h2
        have HR2 := Lib.hid hR2
        have HB2 := Lib.hid hb2
        have HA2 := Lib.hid hA2'
        clear h2 hR2 hb2 hA2' hf2 hA2 HC H HR HA HB
        go_wp2_with (fail)
        obtain ⟨w2o, rfl⟩ : ∃ x : World, x = w2 := ⟨_, rfl⟩
        go_loop [77] (fun i => ∃ j : Nat, j ≤ k ∧ i = .int .i64 j) (fun i => k - (intOf i).toNat)
        case atStart => exact ⟨0, by omega, rfl⟩
        case round =>
          obtain ⟨j, hj, rfl⟩ := hrel
          by_cases hlj : j < k
          · obtain ⟨rq, hRq, hrq, hrcq⟩ := HR2.out.at1 (refL_get hlj)
            have hrcq' : w2o.cell? ⟨rq, j, none⟩ = some (.int .u32 ((j : Int) + 2)) := hrcq
            injection hRq with hRq; injection hRq with hRq; subst hRq
            have hj0 : (0 : Int) ≤ j := by omega
            have hj1 : (j : Int) < k := by omega
            have hjk : ((j : Int) + 2 == (k : Int) + 2) = false := by simp; omega
            clear hrcq
            go_wp2
            go_round
            case rel => exact ⟨j + 1, by omega, by go_num⟩
            case measure => simp [intOf]; omega
          · obtain rfl : j = k := by omega
            go_wp2_with (at_builtin
                         refine Own.append_list (f := fun x => [rc x]) rfl (.tmp 85) (.tmp 87) _ rfl Try.underlying28 info_ref rfl (by omega) rfl (HR2.out.frm ((Frm.refl (fun _ => False) _).alloc _) (fun _ _ => id)) (fun _ => rfl) ((j : Int) + 2) w2o.heap.size 1 rfl (Blk.new w2o _ _) (by simp [Value.oneCell', rc]) (by rw [refL_len]; unfold maxLen; omega) (by rw [refL_len]; omega) ?_
                         intro gg cap w4 hR4 hg4 hat
                         have hL4 : Frm (fun b => rowOf (some ⟨rb, 0, none⟩) b) w2o w4 := ((Frm.refl _ _).alloc _).grown hg4 (fun g hg => .inl (ownBlock_row.1 hg))
                         have hst4 := H2.out.frm hL4 (by
                           rintro b (h | h | ⟨_, h, _⟩) ⟨a, ha, hab⟩
                           · exact HR2.out.ne_blk H2.out.blk (by decide) a ha (hab.trans h)
                           · exact H2.out.own.ne_own HR2.out (by decide) b h ⟨a, ha, hab⟩
                           · cases h)
                         have hge : w.heap.size ≤ gg := by
                           rcases hat with h | h
                           · exact HRF.out gg (ownBlock_row.1 h)
                           · have := HB2.out.size
                             simp at h
                             omega
                         have hb4 : Below w.heap.size w w4 := HB2.out.trans (hL4.to_below HB2.out.size (fun i hi h => by have := HRF.out i h; omega))
                         have H4 := Lib.hid hst4
                         have HR4 := Lib.hid hR4
                         have HB4 := Lib.hid hb4
                         clear hst4 hR4 hb4 hL4 hg4 hat H2 HR2 HB2)
            go_roundw
            case rel => exact ⟨j + 1, A2, C2, some ⟨gg, 0, none⟩, cap, by omega, by go_num, rfl, by have h := H4.out; exact h, by rw [refL_succ]; exact HR4.out, HA2.out, fresh_some hge, HB4.out⟩
            case measure => simp [intOf]; omega
    · obtain rfl : k = M := by omega
      have hlen := fillL_len k
      have hck : ckN (fillL k) ⟨0, 0, 0⟩ = 0 := by
        unfold ckN
        rw [if_neg (by decide), if_neg]
        rintro (h | h) <;> (rw [fillL_tk (by decide) (by simp; omega)] at h; cases h)
      have c1 := alloc_full hst ⟨0, 0, 0⟩ (by decide) (by decide) (by decide) (by decide) hck (by omega)
      have H := Lib.hid hst
      have HR := Lib.hid hR
      have HA := Lib.hid hA
      have HRF := Lib.hid hRf
      have HB := Lib.hid hbr
      have C1 := Lib.hid c1
      clear c1 hst hR hA hRf hbr hck
      go_wp2_with (fail)
      refine C1.out.mono ?_
      rintro e w2 ⟨rfl, hs2⟩
      have h2 := H.out.frm hs2 (fun _ _ => id)
      have hR2 := HR.out.frm hs2 (fun _ _ => id)
      have hb2 := HB.out.trans (hs2.to_below HB.out.size (fun _ _ => id))
      clear C1 H HR HB hs2
      have C2 := Lib.hid h2.used
      have H2 := Lib.hid h2
      have HR2 := Lib.hid hR2
      have HB2 := Lib.hid hb2
      clear h2 hR2 hb2
      go_wp2_with (fail)
      refine C2.out.mono ?_
      rintro e w3 ⟨rfl, rfl⟩
      clear C2
      by_cases hk0 : k = 0
      · subst hk0
        have HB3 := HB2
        go_wp2
        go_ret
        exact ⟨rfl, HB3.out⟩
      · have hk0' : ((k : Int) == 0) = false := by simp; omega
        obtain ⟨G, hG⟩ : ∃ G : Nat, IntKind.u64.wrap f % (k : Int) = (G : Int) := ⟨(IntKind.u64.wrap f % (k : Int)).toNat, by have := Int.emod_nonneg (IntKind.u64.wrap f) (show (k : Int) ≠ 0 by omega); omega⟩
        have hGk : (G : Int) < k := by have := Int.emod_lt_of_pos (IntKind.u64.wrap f) (show (0 : Int) < k by omega); omega
        have hGn : G < k := by omega
        obtain ⟨rb, rfl, hrb, hrc⟩ := HR2.out.at1 (refL_get hGn)
        have hrc' : w2.cell? ⟨rb, G, none⟩ = some (.int .u32 ((G : Int) + 2)) := hrc
        have hG0 : (0 : Int) ≤ G := by omega
        clear hrc
        have hc3 : ownE (fillL k) ((G : Int) + 2) = 0 := by
          unfold ownE
          rw [if_neg]
          rintro (h | h)
          · omega
          · rw [fillL_tk (by omega) (by omega)] at h; cases h
        have c3 := free_ok (r := G + 2) H2.out (by omega) (by rw [show (((G + 2 : Nat)) : Int) = (G : Int) + 2 by omega]; exact hc3) (by omega) (by simp)
        rw [show (((G + 2 : Nat)) : Int) = (G : Int) + 2 by omega] at c3
        have C3 := Lib.hid c3
        clear c3 hc3
        go_wp2_with (fail)
        refine C3.out.mono ?_
        rintro e w4 ⟨rfl, A4, D4, h4, hf4, hA4⟩
        clear C3
        have hR4 := HR2.out.frm hf4 (by
          rintro a ha (h | h | ⟨_, h, _⟩)
          · exact HR2.out.ne_blk H2.out.blk (by decide) a ha h
          · exact H2.out.own.ne_own HR2.out (by decide) _ h ⟨a, ha, rfl⟩
          · cases h)
        have hb4 := HB2.out.trans (hf4.to_below HB2.out.size (by
          rintro i hi (h | h | ⟨_, h, _⟩)
          · omega
          · have := HA.out i h; omega
          · cases h))
        have hA4' : Fresh w.heap.size A4 := by
          intro b hb
          rcases hA4 b hb with ⟨_, h, _⟩ | h
          · cases h
          · have := HB2.out.size; omega
        have hap : ∀ b, rowOf (some (⟨rb, 0, none⟩ : Addr)) b → ¬ rowOf A4 b ∧ ¬ rowOf A b ∧ b ≠ g := by
          rintro b hb
          refine ⟨fun h => ?_, fun h => H2.out.own.ne_own HR2.out (by decide) b h hb, ?_⟩
          · rcases hA4 b h with ⟨_, h, _⟩ | h
            · cases h
            · have := HR2.out.block _ rfl
              obtain ⟨a, ha, hab⟩ := hb
              injection ha with ha
              subst ha
              omega
          · obtain ⟨a, ha, hab⟩ := hb
            intro h
            exact HR2.out.ne_blk H2.out.blk (by decide) a ha (hab.trans h)
        have c4 := h4.used
        have h4' : ASt w4 g (2 + (k : Int)) (2 + (k : Int) - 1) ((fillL k).set (G + 2) zPl) ([] ++ [((G + 2 : Nat) : Int)]) A C A4 D4 := by
          rw [show (((G + 2 : Nat)) : Int) = (G : Int) + 2 by omega]; exact h4
        have hck : ckN ((fillL k).set (G + 2) zPl) ⟨63, 1, 0⟩ = 0 := by
          unfold ckN
          rw [if_neg (by decide), if_neg]
          rintro (h | h) <;> (rw [set_tk (by decide) (by simp; omega), fillL_tk (by decide) (by simp; omega)] at h; cases h)
        have c5 := alloc_pop h4' ⟨63, 1, 0⟩ (by decide) (by decide) (by decide) (by decide) hck (by rw [List.length_set]; omega) (by omega)
        rw [show (((G + 2 : Nat)) : Int) = (G : Int) + 2 by omega, show (2 + (k : Int) - 1 + 1) = 2 + (k : Int) by omega] at c5
        have C4 := Lib.hid c4
        have C5 := Lib.hid c5
        have HR4 := Lib.hid hR4
        have HB4 := Lib.hid hb4
        have HA4 := Lib.hid hA4'
        have HAP := Lib.hid hap
        clear c4 c5 hR4 hb4 hA4' hap h4 h4' hck hf4 hA4 H2 HR2 HB2
        go_wp2_with (fail)
        refine C4.out.mono ?_
        rintro e w5 ⟨rfl, rfl⟩
        clear C4
        go_wp2_with (fail)
        refine C5.out.mono ?_
        rintro e w6 ⟨rfl, h6, hf6⟩
        clear C5
        have hR6 := HR4.out.frm hf6 (by
          rintro a ha (h | h | h)
          · exact (HAP.out _ ⟨a, ha, rfl⟩).2.2 h
          · exact (HAP.out _ ⟨a, ha, rfl⟩).2.1 h
          · exact (HAP.out _ ⟨a, ha, rfl⟩).1 h)
        have hb6 := HB4.out.trans (hf6.to_below HB4.out.size (by
          rintro i hi (h | h | h)
          · omega
          · have := HA.out i h; omega
          · have := HA4.out i h; omega))
        have c7 := h6.get ((G : Int) + 2) (by omega) (by omega)
        have hg7 := fin3_own hGn
        rw [show ((fillL k).set (G + 2) zPl).set (G + 2) (⟨⟨63, 1, 0⟩, true, 0⟩ : Pl) = fin3 k G from rfl] at c7 h6
        rw [hg7.1, hg7.2] at c7
        simp only [Nd.val] at c7
        have C7 := Lib.hid c7
        have H6 := Lib.hid h6
        have HR6 := Lib.hid hR6
        have HB6 := Lib.hid hb6
        clear c7 h6 hR6 hb6 hf6 HR4 HB4 hg7
        go_wp2_with (fail)
        refine C7.out.mono ?_
        rintro e w7 ⟨rfl, hs7⟩
        clear C7
        have H7 := Lib.hid (H6.out.frm hs7 (fun _ _ => id))
        have HR7 := Lib.hid (HR6.out.frm hs7 (fun _ _ => id))
        have HB7 := Lib.hid (HB6.out.trans (hs7.to_below HB6.out.size (fun _ _ => id)))
        clear H6 HR6 HB6 hs7
        obtain ⟨rb', hrb'e, hrb7, hrc7⟩ := HR7.out.at1 (refL_get hGn)
        injection hrb'e with hrb'e
        injection hrb'e with hrb'e
        subst hrb'e
        have hrc7' : w7.cell? ⟨rb, G, none⟩ = some (.int .u32 ((G : Int) + 2)) := hrc7
        have hnq : ∀ w, (binOp .neq 34 (.agg #[.int .i64 63, .int .u32 1, .int .u32 0]) (.agg #[.int .i64 63, .int .u32 1, .int .u32 0])).run Try.prog w = .ok (.bool false) w := fun w => neq_nd ⟨63, 1, 0⟩ ⟨63, 1, 0⟩ w
        clear hrc7 hrc' hrb
        go_wp2_with (fail)
        have hb8 := HB7.out.trans (((Frm.refl (fun _ => False) w7).alloc (.cells #[.int .i64 63, .int .u32 1, .int .u32 0] 34)).to_below HB7.out.size (fun _ _ => id))
        have h8 := H7.out.frm ((Frm.refl (fun _ => False) w7).alloc (.cells #[.int .i64 63, .int .u32 1, .int .u32 0] 34)) (fun _ _ => id)
        have hR8 := HR7.out.frm ((Frm.refl (fun _ => False) w7).alloc (.cells #[.int .i64 63, .int .u32 1, .int .u32 0] 34)) (fun _ _ => id)
        clear H7 HR7 HB7 hrb7 hrc7' hnq
        go_loopw [161] (fun i wr => ∃ j : Nat, j ≤ k ∧ i = .int .i64 j ∧ ASt wr g (2 + (k : Int)) (2 + (k : Int)) (fin3 k G) [] A C A4 D4 ∧ Row1 wr 30 rc (some ⟨rb, 0, none⟩) k D (refL k) ∧ Below w.heap.size w wr) (fun i _ => k - (intOf i).toNat)
        case atStart => exact ⟨0, by omega, rfl, h8, hR8, hb8⟩
        case round =>
          clear h8 hR8 hb8
          obtain ⟨j, hj, rfl, h9, hR9, hb9⟩ := hrel
          by_cases hlj : j < k
          · obtain ⟨rq, hrqe, hrq, hrcq⟩ := hR9.at1 (refL_get hlj)
            injection hrqe with hrqe
            injection hrqe with hrqe
            subst hrqe
            have hrcq' : wr.cell? ⟨rb, j, none⟩ = some (.int .u32 ((j : Int) + 2)) := hrcq
            have hj0 : (0 : Int) ≤ j := by omega
            have hj1 : (j : Int) < k := by omega
            have c9 := h9.get ((j : Int) + 2) (by omega) (by omega)
            have H9 := Lib.hid h9
            have HR9 := Lib.hid hR9
            have HB9 := Lib.hid hb9
            clear h9 hR9 hb9 hrcq
            have hend : ∀ w10, Same wr w10 → ∃ j' : Nat, (j' : Int) = (j : Int) + 1 ∧ ASt w10 g (2 + (k : Int)) (2 + (k : Int)) (fin3 k G) [] A C A4 D4 ∧ Row1 w10 30 rc (some ⟨rb, 0, none⟩) k D (refL k) ∧ Below w.heap.size w w10 :=
              fun w10 hs => ⟨j + 1, by omega, H9.out.frm hs (fun _ _ => id), HR9.out.frm hs (fun _ _ => id), HB9.out.trans (hs.to_below HB9.out.size (fun _ _ => id))⟩
            have HE := Lib.hid hend
            clear hend H9 HR9 HB9
            by_cases hjG : j = G
            · have hne : ((j : Int) != (G : Int)) = false := by simp; omega
              have hg9 := fin3_own hGn
              rw [hjG, hg9.1, hg9.2] at c9
              simp only [Nd.val] at c9
              rw [← hjG] at c9
              have C9 := Lib.hid c9
              clear c9 hg9 hjG
              go_wp2_with (fail)
              refine C9.out.mono ?_
              rintro e w10 ⟨rfl, hs10⟩
              clear C9
              go_wp2
              go_roundw
              case rel =>
                obtain ⟨j', hj', q1, q2, q3⟩ := HE.out _ (hs10.alloc (.cells #[.int .i64 63, .int .u32 1, .int .u32 0] 34))
                obtain rfl : j' = j + 1 := by omega
                exact ⟨j + 1, by omega, by go_num, q1, q2, q3⟩
              case measure => simp [intOf]; omega
            · have hne : ((j : Int) != (G : Int)) = true := by simp; omega
              have hg9 := fin3_other hlj hjG
              rw [hg9.1, hg9.2] at c9
              simp only [Nd.val, fillP] at c9
              have C9 := Lib.hid c9
              clear c9 hg9 hjG
              generalize (if j = 0 then (0 : Int) else (j : Int) + 1) = LL at *
              go_wp2_with (fail)
              refine C9.out.mono ?_
              rintro e w10 ⟨rfl, hs10⟩
              clear C9
              go_wp2
              go_roundw
              case rel =>
                obtain ⟨j', hj', q1, q2, q3⟩ := HE.out _ (hs10.alloc (.cells #[.int .i64 ((j : Int) % 64), .int .u32 LL, .int .u32 1] 34))
                obtain rfl : j' = j + 1 := by omega
                exact ⟨j + 1, by omega, by go_num, q1, q2, q3⟩
              case measure => simp [intOf]; omega
          · obtain rfl : j = k := by omega
            have HB9 := Lib.hid hb9
            clear hb9 h9 hR9
            go_wp2
            go_ret
            exact ⟨rfl, HB9.out⟩
end Go.Proofs.Ytkajgopkdolhcaa
