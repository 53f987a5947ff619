/- Contracts and plain laws, put together in one file. No condition. -/
import Derived.Test.YtkelbbalffijbaaJUniqueMany3
import Derived.Test.YtkelbbalffijbaaRows


/- Layer 07: UniqueMany, walked. -/
namespace Go.Proofs.Ytkelbbalffijbaa
open Go.RowKit Go.Tk Go.Maps

theorem u32_nn {n : Int} (h : (Lit.int .u32 n).wf = true) : 0 ≤ n := by
  simp [Lit.wf, IntKind.min, IntKind.max, IntKind.signed, IntKind.bits] at h
  omega
abbrev boolC (b : Bool) : Value := .bool b
theorem info_boolM : (Try.prog.info? 4).map (fun i => (i.zero, i.size, i.bytes)) = some (some (.bool false), 1, 1) := by kernel_rfl
theorem info_intM : (Try.prog.info? 3).map (fun i => (i.zero, i.size, i.bytes)) = some (some (.int .i64 0), 1, 8) := by kernel_rfl
structure Many (w0 w : World) (U : UTab) (N s t c S T V : Nat) (A : Option Addr) (C : Nat) (L : List Ent) (fs : List Bool) : Prop where
  u : UT w U N L
  bs : Blk w S 33 #[.int .u32 s]
  bt : Blk w T 33 #[.int .u32 t]
  bv : Blk w V 3 #[.int .i64 N]
  f : Row1 w 4 boolC A c C fs
  s : Same w0 w
  mb : ∀ v, v < N → w0.heap.size ≤ U.mb v
  fa : Fresh w0.heap.size A
  lo : ∀ b, rowOf A b → U.T < b ∧ U.sb < b ∧ S < b ∧ T < b ∧ V < b ∧ ∀ v, v < N → U.mb v < b
theorem Many.later {w0 w w' : World} {U : UTab} {N s t c S T V : Nat} {A : Option Addr} {C : Nat} {L : List Ent} {fs : List Bool} (h : Many w0 w U N s t c S T V A C L fs) (hs : Same w w') : Many w0 w' U N s t c S T V A C L fs :=
  ⟨h.u.same hs, h.bs.frm hs id, h.bt.frm hs id, h.bv.frm hs id, h.f.frm hs (fun _ _ => id), h.s.trans hs (fun _ _ h => h), h.mb, h.fa, h.lo⟩
theorem Many.did {w0 w w' : World} {U : UTab} {N s t c S T V : Nat} {A : Option Addr} {C : Nat} {L L' : List Ent} {fs : List Bool} (h : Many w0 w U N s t c S T V A C L fs) (hu : UT w' U N L') (hf : Frm (UB U N) w w') : Many w0 w' U N s t c S T V A C L' fs :=
  ⟨hu, h.bs.frm hf (h.u.notUB_cells h.bs), h.bt.frm hf (h.u.notUB_cells h.bt), h.bv.frm hf (h.u.notUB_cells h.bv), h.f.frm hf (h.u.notUB_own h.f), h.s.trans hf (fun i hi ⟨v, hv, e⟩ => by have := h.mb v hv; omega), h.mb, h.fa, h.lo⟩
/-- a young row is written -/
theorem Many.turn {w0 w w' : World} {U : UTab} {N s t c S T V : Nat} {A B : Option Addr} {C : Nat} {L : List Ent} {fs fs' : List Bool} (h : Many w0 w U N s t c S T V A C L fs) (hf : Frm (fun b => rowOf B b) w w') (hB : Fresh w0.heap.size B)
    (lo : ∀ b, rowOf B b → U.T < b ∧ U.sb < b ∧ S < b ∧ T < b ∧ V < b ∧ ∀ v, v < N → U.mb v < b) (hr : Row1 w' 4 boolC A c C fs') : Many w0 w' U N s t c S T V A C L fs' :=
  ⟨h.u.frm hf (fun e => by have := (lo _ e).1; omega) (fun e => by have := (lo _ e).2.1; omega) (fun v hv e => by have := (lo _ e).2.2.2.2.2 v hv; omega),
   h.bs.frm hf (fun e => by have := (lo _ e).2.2.1; omega), h.bt.frm hf (fun e => by have := (lo _ e).2.2.2.1; omega), h.bv.frm hf (fun e => by have := (lo _ e).2.2.2.2.1; omega), hr,
   h.s.trans hf (fun i hi e => by have := hB i e; omega), h.mb, h.fa, h.lo⟩
theorem Many.put {w0 w : World} {U : UTab} {N s t c S T V sb : Nat} {C : Nat} {L : List Ent} {fs : List Bool} (h : Many w0 w U N s t c S T V (some ⟨sb, 0, none⟩) C L fs) {i : Nat} (hi : i < fs.length) (b : Bool) : Many w0 (w.setCell ⟨sb, i, none⟩ (.bool b)) U N s t c S T V (some ⟨sb, 0, none⟩) C L (fs.set i b) :=
  h.turn (B := some ⟨sb, 0, none⟩) ((Frm.refl _ w).set i _ ⟨_, rfl, rfl⟩) h.fa h.lo (h.f.put1 hi b)
/-- the row of the fresh ones -/
def freshL (K : Nat → Nd) (c i : Nat) : List Bool := (List.range c).map fun j => decide (j < i) && firstN K j
theorem freshL_len {K : Nat → Nd} {c i : Nat} : (freshL K c i).length = c := by simp [freshL]
theorem freshL_zero {K : Nat → Nd} {c : Nat} : freshL K c 0 = List.replicate c false := by
  unfold freshL
  apply List.ext_getElem <;> simp
theorem freshL_set {K : Nat → Nd} {c i : Nat} : (freshL K c i).set i (firstN K i) = freshL K c (i + 1) := by
  apply List.ext_getElem
  · simp [freshL]
  · intro j h1 h2
    rw [List.getElem_set]
    by_cases e : i = j
    · subst e
      simp [freshL]
    · have : (j < i + 1) = (j < i) := by apply propext; omega
      simp [freshL, e, this]
theorem freshL_at {K : Nat → Nd} {c i j : Nat} (hj : j < c) : (freshL K c i)[j]? = some (decide (j < i) && firstN K j) := by
  simp [freshL, hj]
/-- the row of the counts -/
def leftR (K : Nat → Nd) (N i : Nat) : List Int := (List.range N).map fun v => (leftN K v i : Int)
theorem leftR_len {K : Nat → Nd} {N i : Nat} : (leftR K N i).length = N := by simp [leftR]
theorem leftR_zero {K : Nat → Nd} {N : Nat} : leftR K N 0 = List.replicate N 0 := by
  unfold leftR
  apply List.ext_getElem <;> simp [leftN]
theorem leftR_at {K : Nat → Nd} {N i v : Nat} (hv : v < N) : (leftR K N i)[v]? = some (leftN K v i : Int) := by simp [leftR, hv]
theorem leftR_set {K : Nat → Nd} {N i v : Nat} (he : endsN K i = true) (hK : (K i).v = (v : Int)) : (leftR K N i).set v ((leftN K v i : Int) + 1) = leftR K N (i + 1) := by
  apply List.ext_getElem
  · simp [leftR]
  · intro j h1 h2
    rw [List.getElem_set]
    by_cases e : v = j
    · subst e
      simp [leftR, leftN_succ, he, hK]
    · have : ¬ (v : Int) = j := by omega
      simp [leftR, leftN_succ, hK, e, this]
theorem leftR_same {K : Nat → Nd} {N i : Nat} (he : endsN K i = false) : leftR K N i = leftR K N (i + 1) := by
  unfold leftR
  refine List.map_congr_left fun v _ => ?_
  rw [leftN_succ, if_neg (by simp [he])]
  rfl
abbrev intC (x : Int) : Value := .int .i64 x
set_option maxRecDepth 100000 in
set_option maxHeartbeats 16000000 in
theorem uniqueMany_any (vars count : Int) (s t : Nat) (w : World) :
    Calls Try.prog 6 #[.int .i64 vars, .int .i64 count, .int .u32 s, .int .u32 t] w fun e w' => e = .returned (.bool true) ∧ Same w w' := by
  go_enter Try.func6, Try.ntmps6
  go_upto_region 1 with fail
  refine wp_world fun w1 hw1 => ?_
  have hs1 : Same w w1 := by rw [hw1]; exact (((Frm.refl _ _).alloc _).alloc _).alloc _
  have hV : Blk w1 w.heap.size 3 #[.int .i64 vars] := by rw [hw1]; exact ((Blk.new _ _ _).alloc _).alloc _
  have hS : Blk w1 (w.heap.size + 1) 33 #[.int .u32 s] := by
    rw [hw1]
    have := (Blk.new (w.alloc (.cells #[.int .i64 vars] 3)) 33 #[.int .u32 s]).alloc (.cells #[.int .u32 t] 33)
    rwa [World.size_alloc] at this
  have hT : Blk w1 (w.heap.size + 1 + 1) 33 #[.int .u32 t] := by
    rw [hw1]
    have := Blk.new ((w.alloc (.cells #[.int .i64 vars] 3)).alloc (.cells #[.int .u32 s] 33)) 33 #[.int .u32 t]
    rwa [World.size_alloc, World.size_alloc] at this
  obtain ⟨V, hVV⟩ : ∃ z, z = w.heap.size := ⟨_, rfl⟩
  obtain ⟨S, hSS⟩ : ∃ z, z = w.heap.size + 1 := ⟨_, rfl⟩
  obtain ⟨T, hTT⟩ : ∃ z, z = w.heap.size + 1 + 1 := ⟨_, rfl⟩
  rw [← hTT] at hT ⊢
  rw [← hSS] at hS ⊢
  rw [← hVV] at hV ⊢
  have HS1 := Lib.hid hs1
  have HV1 := Lib.hid hV
  have HSS1 := Lib.hid hS
  have HT1 := Lib.hid hT
  clear hw1 hs1 hV hS hT hVV hSS hTT
  go_wp2_with (fail)
  refine (uqawake_any w1).mono ?_
  rintro e w2 ⟨rfl, hs2⟩
  have HS2 := Lib.hid (HS1.out.trans hs2 (fun _ _ h => h))
  have HV2 := Lib.hid (HV1.out.frm hs2 id)
  have HSS2 := Lib.hid (HSS1.out.frm hs2 id)
  have HT2 := Lib.hid (HT1.out.frm hs2 id)
  clear hs2 HS1 HV1 HSS1 HT1
  have cV : w2.cell? ⟨V, 0, none⟩ = some (.int .i64 vars) := HV2.out.cell 0
  have lV := HV2.out.lt
  by_cases hv : 1 ≤ vars ∧ vars ≤ 64
  · obtain ⟨N, rfl⟩ := Int.eq_ofNat_of_zero_le (show 0 ≤ vars by omega)
    have hN1 : 1 ≤ N := by omega
    have hN2 : N ≤ 64 := by omega
    clear hv
    go_wp2_with (fail)
    refine (uqnew_any N hN1 hN2 w2).mono ?_
    rintro e w3 ⟨U, rfl, hs3, hU, _, _, hmb⟩
    have HU := Lib.hid hU
    have HMB := Lib.hid (fun v hv => Nat.le_trans HS2.out.size (hmb v hv))
    have HS3 := Lib.hid (HS2.out.trans hs3 (fun _ _ h => h))
    have HV3 := Lib.hid (HV2.out.frm hs3 id)
    have HSS3 := Lib.hid (HSS2.out.frm hs3 id)
    have HT3 := Lib.hid (HT2.out.frm hs3 id)
    clear hs3 hU hmb HS2 HV2 HSS2 HT2 cV lV
    by_cases hc0 : count < 0
    · go_wp2
      go_ret
      exact ⟨rfl, HS3.out⟩
    · obtain ⟨c, rfl⟩ := Int.eq_ofNat_of_zero_le (show 0 ≤ count by omega)
      by_cases hc1 : (c : Int) > 3000
      · go_wp2
        go_ret
        exact ⟨rfl, HS3.out⟩
      · have hc : c ≤ 3000 := by omega
        have hmk := fun w => run_make_n (P := Try.prog) Try.underlying58 info_boolM .i64 .i64 c (show 1 * c ≤ 281474976710656 by omega) (show c ≤ 9223372036854775807 by omega) w
        obtain ⟨K, hK⟩ : ∃ z, z = nodeOf N s t := ⟨_, rfl⟩
        have HND := Lib.hid (fun (i : Nat) (hi : i < c) (w : World) hs ht hv => hK ▸ node_any N s t i S T V (by omega) hN2 (by omega) w hs ht hv)
        have HKO := Lib.hid (fun i => hK ▸ nodeOf_ok (N := N) (s := s) (t := t) (i := i) (by omega) hN2 : ∀ i, (K i).ok)
        have HKV := Lib.hid (fun i => hK ▸ nodeOf_v (N := N) (s := s) (t := t) (i := i) (by omega) : ∀ i, 0 ≤ (K i).v ∧ (K i).v < N)
        have HKN := Lib.hid (fun i => hK ▸ rfl : ∀ i, (K i).v = ((i % N : Nat) : Int))
        have hO := Own.ofMade (m := 1) w3 4 (fun b : Bool => [boolC b]) (fun _ => rfl) (by decide) false c (show c ≤ 9223372036854775807 by omega) rfl
        rw [← freshL_zero (K := K)] at hO
        have hsa : ∀ cs, Same w3 (w3.alloc (.cells cs 4)) := fun cs => (Frm.refl _ _).alloc _
        have HM0 := Lib.hid (show Many w _ U N s t c S T V (some ⟨w3.heap.size, 0, none⟩) c (entsP K (firstN K) 0) (freshL K c 0) from ⟨HU.out.same (hsa _), HSS3.out.frm (hsa _) id, HT3.out.frm (hsa _) id, HV3.out.frm (hsa _) id, hO, HS3.out.trans (hsa _) (fun _ _ h => h), HMB.out, fresh_some HS3.out.size, by
          rintro b ⟨a, ha, rfl⟩
          injection ha with ha
          subst ha
          exact ⟨HU.out.t.lt, HU.out.sl, HSS3.out.lt, HT3.out.lt, HV3.out.lt, fun v hv => (HU.out.m v hv).lt⟩⟩)
        clear hK hO hsa
        clear HU HSS3 HT3 HV3 HS3 HMB
        obtain ⟨F, hF⟩ : ∃ z, z = w3.heap.size := ⟨_, rfl⟩
        rw [← hF] at HM0
        go_upto_region 8 with fail
        rw [← hF]
        clear hF
        go_wp2
        go_loopw [64] (fun i wr => ∃ k : Nat, i = .int .i64 k ∧ k ≤ c ∧ Many w wr U N s t c S T V (some ⟨F, 0, none⟩) c (entsP K (firstN K) k) (freshL K c k)) (fun i _ => c - (intOf i).toNat)
        case atStart => exact ⟨0, rfl, Nat.zero_le _, by simpa [boolC] using HM0.out⟩
        case round =>
          clear HM0 hmk
          obtain ⟨k, rfl, hk, hm⟩ := hrel
          have HM := Lib.hid hm
          clear hm
          by_cases hlt : k < c
          · have hk0 : (0 : Int) ≤ k := by omega
            have hk1 : (k : Int) < c := by omega
            go_wp2_with (fail)
            refine (HND.out k hlt wr HM.out.bs HM.out.bt HM.out.bv).mono ?_
            rintro e w4 ⟨rfl, hs4⟩
            have HM4 := Lib.hid (HM.out.later hs4)
            clear hs4 HM
            go_wp2_with (fail)
            refine (uqfind_any U N (entsP K (firstN K) k) (K k) (HKO.out k) w4 HM4.out.u).mono ?_
            rintro e w5 ⟨rfl, hs5⟩
            have HM5 := Lib.hid (HM4.out.later hs5)
            clear hs5 HM4
            go_wp2_with (fail)
            refine (HND.out k hlt w5 HM5.out.bs HM5.out.bt HM5.out.bv).mono ?_
            rintro e w6 ⟨rfl, hs6⟩
            have HM6 := Lib.hid (HM5.out.later hs6)
            clear hs6 HM5
            have hwk : IntKind.u32.wrap (k : Int) = k := by rw [IntWalk.u32_in _ (by omega)]
            go_wp2_with (fail)
            refine (uqadd_any U N (entsP K (firstN K) k) (K k) (HKO.out k) k (wf_u32 (by omega)) (Nat.lt_of_le_of_lt entsP_len (by simp [maxLen] <;> omega)) w6 HM6.out.u).mono ?_
            rintro e w7 ⟨rfl, hu7, hf7⟩
            have HM7 := Lib.hid HM6.out
            have hm7 := HM6.out.did hu7 hf7
            clear hu7 hf7 HM6
            have hfl : k < (freshL K c k).length := by rw [freshL_len]; exact hlt
            have hat := freshL_at (K := K) (i := k) hlt
            obtain ⟨_, h1, h2, h3⟩ := hm7.f.at1 hat
            cases h1
            have f7 := hm7.f.free k
            have hst : ∀ b : Bool, Many w (w7.setCell ⟨F, k, none⟩ (.bool b)) U N s t c S T V (some ⟨F, 0, none⟩) c (addL N (entsP K (firstN K) k) (K k) k) ((freshL K c k).set k b) := fun b => hm7.put hfl b
            have HST := Lib.hid hst
            have hkv : (0 : Int) ≤ (K k).v ∧ (K k).v < N := HKV.out k
            have hsn := entsP_snoc (K := K) (P := firstN K) (c := k)
            by_cases hf : firstN K k = true
            · have hlk := look_first hf
              rw [if_pos hf] at hsn
              have ha1 : addE N (entsP K (firstN K) k) (K k) = 0 := by unfold addE; rw [if_pos hkv, hlk]; rfl
              have ha2 : addL N (entsP K (firstN K) k) (K k) k = entsP K (firstN K) (k + 1) := by unfold addL; rw [if_pos hkv, hlk, hsn]; rfl
              rw [ha1, hlk]
              have HM8 := Lib.hid (show Many w (w7.setCell ⟨F, k, none⟩ (.bool true)) U N s t c S T V (some ⟨F, 0, none⟩) c (entsP K (firstN K) (k + 1)) (freshL K c (k + 1)) from by
                have := HST.out true
                rw [ha2, show (freshL K c k).set k true = freshL K c (k + 1) from by rw [← freshL_set, hf]] at this
                exact this)
              have HF := Lib.hid hf
              clear hlk hsn ha1 ha2 hf hkv hst HST hm7 hat hfl HM7
              go_upto_region 14 with fail
              obtain ⟨w8, hw8⟩ : ∃ z, z = w7.setCell ⟨F, k, none⟩ (.bool true) := ⟨_, rfl⟩
              rw [← hw8] at HM8 ⊢
              have cF : w8.cell? ⟨F, k, none⟩ = some (.bool true) := by
                obtain ⟨_, h1, h2, h3⟩ := HM8.out.f.at1 (freshL_at (K := K) (i := k + 1) hlt)
                cases h1
                rw [h3, HF.out]
                simp
              have lF : F < w8.heap.size := HM8.out.f.block _ rfl
              clear hw8 h2 h3 f7
              go_wp2
              go_roundw
              case rel => exact ⟨k + 1, by go_num, hlt, HM8.out⟩
              case measure => simp [intOf] <;> omega
            · obtain ⟨j, hj, hje, hlk⟩ := look_again HM7.out.u.nd hf
              rw [if_neg hf, List.append_nil] at hsn
              have ha1 : addE N (entsP K (firstN K) k) (K k) = 11 := by unfold addE; rw [if_pos hkv, hlk]; rfl
              have ha2 : addL N (entsP K (firstN K) k) (K k) k = entsP K (firstN K) (k + 1) := by unfold addL; rw [if_pos hkv, hlk, hsn]; rfl
              rw [ha1, hlk]
              have HM8 := Lib.hid (show Many w (w7.setCell ⟨F, k, none⟩ (.bool false)) U N s t c S T V (some ⟨F, 0, none⟩) c (entsP K (firstN K) (k + 1)) (freshL K c (k + 1)) from by
                have := HST.out false
                rw [ha2, show (freshL K c k).set k false = freshL K c (k + 1) from by rw [← freshL_set, Bool.eq_false_iff.2 hf]] at this
                exact this)
              have HF := Lib.hid (Bool.eq_false_iff.2 hf)
              have HJ := Lib.hid hje
              have hj0 : (0 : Int) ≤ j := by omega
              have hj1 : (j : Int) < c := by omega
              have hjc : j < c := by omega
              have hwj : IntKind.i64.wrap (j : Int) = j := by rw [IntWalk.i64_in _ (by omega)]
              clear hlk hsn ha1 ha2 hf hkv hst HST hm7 hat hfl hje HM7
              go_upto_region 14 with fail
              obtain ⟨w8, hw8⟩ : ∃ z, z = w7.setCell ⟨F, k, none⟩ (.bool false) := ⟨_, rfl⟩
              rw [← hw8] at HM8 ⊢
              have cF : w8.cell? ⟨F, k, none⟩ = some (.bool false) := by
                obtain ⟨_, h1, h2, h3⟩ := HM8.out.f.at1 (freshL_at (K := K) (i := k + 1) hlt)
                cases h1
                rw [h3, HF.out]
                simp
              have lF : F < w8.heap.size := HM8.out.f.block _ rfl
              clear hw8 h2 h3 f7
              go_wp2_with (fail)
              refine (HND.out j hjc w8 HM8.out.bs HM8.out.bt HM8.out.bv).mono ?_
              rintro e w9 ⟨rfl, hs9⟩
              have HM9 := Lib.hid (HM8.out.later hs9)
              clear hs9 HM8
              go_wp2_with (fail)
              refine (HND.out k hlt w9 HM9.out.bs HM9.out.bt HM9.out.bv).mono ?_
              rintro e w10 ⟨rfl, hs10⟩
              have HM10 := Lib.hid (HM9.out.later hs10)
              clear hs10 HM9
              have hne := neq_nd (K j) (K k) w10
              rw [HJ.out, decide_eq_true (rfl : K k = K k)] at hne
              rw [HJ.out]
              unfold Nd.val at hne ⊢
              go_wp2
              go_roundw
              case rel => exact ⟨k + 1, by go_num, hlt, HM10.out⟩
              case measure => simp [intOf] <;> omega
          · have hkc : c = k := by omega
            subst hkc
            rw [stays_zero] at HM
            have HMX := Lib.hid HM.out
            clear HM hk hlt
            go_wp2
            go_loopw [116] (fun i wr => ∃ k : Nat, i = .int .i64 k ∧ k ≤ c ∧ Many w wr U N s t c S T V (some ⟨F, 0, none⟩) c (entsP K (stays K k) c) (freshL K c c)) (fun i _ => c - (intOf i).toNat)
            case atStart => exact ⟨0, rfl, Nat.zero_le _, HMX.out⟩
            case round =>
              clear HMX
              obtain ⟨k, rfl, hk, hm⟩ := hrel
              have HM := Lib.hid hm
              by_cases hlt : k < c
              · have hk0 : (0 : Int) ≤ k := by omega
                have hk1 : (k : Int) < c := by omega
                have hmod : Int.tmod (k : Int) 2 = ((k % 2 : Nat) : Int) := Int.ofNat_tmod k 2
                obtain ⟨_, h1, lF, cF⟩ := hm.f.at1 (freshL_at (K := K) (i := c) hlt)
                cases h1
                rw [decide_eq_true hlt, Bool.true_and] at cF
                clear hm
                by_cases ho : k % 2 = 1
                · rw [ho] at hmod
                  by_cases hf : firstN K k = true
                  · rw [hf] at cF
                    have hlk := look_odd hlt HM.out.u.nd hf
                    have hkv : (0 : Int) ≤ (K k).v ∧ (K k).v < N := HKV.out k
                    have ha1 : remE N (entsP K (stays K k) c) (K k) = 0 := by unfold remE; rw [if_pos hkv, hlk]; rfl
                    have ha2 : remL N (entsP K (stays K k) c) (K k) = entsP K (stays K (k + 1)) c := by unfold remL; rw [if_pos hkv, hlk]; exact without_ents hf ho
                    clear hlk hkv
                    go_wp2_with (fail)
                    refine (HND.out k hlt wr HM.out.bs HM.out.bt HM.out.bv).mono ?_
                    rintro e w4 ⟨rfl, hs4⟩
                    have HM4 := Lib.hid (HM.out.later hs4)
                    clear hs4 HM
                    go_wp2_with (fail)
                    refine (uqrem_any U N (entsP K (stays K k) c) (K k) (HKO.out k) w4 HM4.out.u).mono ?_
                    rintro e w5 ⟨rfl, hu5, hf5⟩
                    rw [ha2] at hu5
                    rw [ha1]
                    have HM5 := Lib.hid (HM4.out.did hu5 hf5)
                    clear hu5 hf5 HM4 ha1 ha2
                    go_wp2
                    go_roundw
                    case rel => exact ⟨k + 1, by go_num, hlt, HM5.out⟩
                    case measure => simp [intOf] <;> omega
                  · rw [Bool.eq_false_iff.2 hf] at cF
                    rw [stays_same (fun h => hf h.2)] at HM
                    clear hf
                    go_wp2
                    go_roundw
                    case rel => exact ⟨k + 1, by go_num, hlt, HM.out⟩
                    case measure => simp [intOf] <;> omega
                · have ho2 : k % 2 = 0 := by omega
                  rw [ho2] at hmod
                  rw [stays_same (fun h => ho h.1)] at HM
                  clear ho ho2
                  go_wp2
                  go_roundw
                  case rel => exact ⟨k + 1, by go_num, hlt, HM.out⟩
                  case measure => simp [intOf] <;> omega
              · have hkc : c = k := by omega
                subst hkc
                rw [stays_end] at HM
                clear hk hlt hm
                have cV : wr.cell? ⟨V, 0, none⟩ = some (.int .i64 N) := HM.out.bv.cell 0
                have lV := HM.out.bv.lt
                have hmk := fun w => run_make_n (P := Try.prog) Try.underlying41 info_intM .i64 .i64 N (show 8 * N ≤ 281474976710656 by omega) (show N ≤ 9223372036854775807 by omega) w
                have hO := Own.ofMade (m := 1) wr 3 (fun x : Int => [intC x]) (fun _ => rfl) (by decide) 0 N (show N ≤ 9223372036854775807 by omega) rfl
                rw [← leftR_zero (K := K)] at hO
                have hsa : ∀ cs, Same wr (wr.alloc (.cells cs 3)) := fun cs => (Frm.refl _ _).alloc _
                have HMX := Lib.hid (HM.out.later (hsa (madeCells #[intC 0] (N * 1))))
                obtain ⟨G, hG⟩ : ∃ z, z = wr.heap.size := ⟨_, rfl⟩
                have HGF := Lib.hid (show Fresh w.heap.size (some ⟨G, 0, none⟩) from fresh_some (by rw [hG]; exact HM.out.s.size))
                have HGL := Lib.hid (show ∀ b, rowOf (some ⟨G, 0, none⟩) b → U.T < b ∧ U.sb < b ∧ S < b ∧ T < b ∧ V < b ∧ ∀ v, v < N → U.mb v < b from by
                  rintro b ⟨a, ha, rfl⟩
                  injection ha with ha
                  subst ha
                  rw [hG]
                  exact ⟨HM.out.u.t.lt, HM.out.u.sl, HM.out.bs.lt, HM.out.bt.lt, HM.out.bv.lt, fun v hv => (HM.out.u.m v hv).lt⟩)
                have HGX := Lib.hid (show F ≠ G from fun e => by have := HM.out.f.block _ rfl; simp only at this; omega)
                have HO := Lib.hid hO
                clear hO hsa HM
                go_upto_region 24 with fail
                rw [← hG] at HO ⊢
                clear hG hmk cV lV
                go_wp2
                go_loopw [140] (fun i wr => ∃ k : Nat, i = .int .i64 k ∧ k ≤ c ∧ Many w wr U N s t c S T V (some ⟨F, 0, none⟩) c (entsP K (endsN K) c) (freshL K c c) ∧ Row1 wr 3 intC (some ⟨G, 0, none⟩) N N (leftR K N k)) (fun i _ => c - (intOf i).toNat)
                case atStart => exact ⟨0, rfl, Nat.zero_le _, by simpa [intC] using HMX.out, by simpa [intC] using HO.out⟩
                case round =>
                  clear HMX HO
                  obtain ⟨k, rfl, hk, hm, hg⟩ := hrel
                  have HM := Lib.hid hm
                  have HG := Lib.hid hg
                  clear hm hg
                  by_cases hlt : k < c
                  · have hk0 : (0 : Int) ≤ k := by omega
                    have hk1 : (k : Int) < c := by omega
                    go_wp2_with (fail)
                    refine (HND.out k hlt wr HM.out.bs HM.out.bt HM.out.bv).mono ?_
                    rintro e w4 ⟨rfl, hs4⟩
                    have HM4 := Lib.hid (HM.out.later hs4)
                    have HG4 := Lib.hid (HG.out.frm hs4 (fun _ _ => id))
                    clear hs4 HM HG
                    go_wp2_with (fail)
                    refine (uqfind_any U N (entsP K (endsN K) c) (K k) (HKO.out k) w4 HM4.out.u).mono ?_
                    rintro e w5 ⟨rfl, hs5⟩
                    have HM5 := Lib.hid (HM4.out.later hs5)
                    have HG5 := Lib.hid (HG4.out.frm hs5 (fun _ _ => id))
                    clear hs5 HM4 HG4
                    have hmod : Int.tmod (k : Int) 2 = ((k % 2 : Nat) : Int) := Int.ofNat_tmod k 2
                    have hwk : IntKind.u32.wrap (k : Int) = k := by rw [IntWalk.u32_in _ (by omega)]
                    obtain ⟨_, h1, lF, cF⟩ := HM5.out.f.at1 (freshL_at (K := K) (i := c) hlt)
                    cases h1
                    rw [decide_eq_true hlt, Bool.true_and] at cF
                    by_cases hf : firstN K k = true
                    · rw [hf] at cF
                      have hlk := look_end hlt HM5.out.u.nd hf
                      by_cases ho : k % 2 = 0
                      · rw [if_pos ho] at hlk
                        rw [hlk]
                        rw [ho] at hmod
                        have HE := Lib.hid (show endsN K k = true by simp [endsN, hf, ho])
                        have cV : w5.cell? ⟨V, 0, none⟩ = some (.int .i64 N) := HM5.out.bv.cell 0
                        have lV := HM5.out.bv.lt
                        have hvN := Nat.mod_lt k (show 0 < N by omega)
                        obtain ⟨v, hv⟩ : ∃ v, v = k % N := ⟨_, rfl⟩
                        have hmodN : Int.tmod (k : Int) N = (v : Int) := by rw [hv]; exact Int.ofNat_tmod k N
                        have hKv : (K k).v = (v : Int) := by rw [hv]; exact HKN.out k
                        rw [← hv] at hvN
                        have hv0 : (0 : Int) ≤ v := by omega
                        have hv1 : (v : Int) < N := by omega
                        have hN0 : ¬ (N : Int) = 0 := by omega
                        obtain ⟨_, h1, lG, cG⟩ := HG5.out.at1 (leftR_at (K := K) (i := k) hvN)
                        cases h1
                        have fG := HG5.out.free v
                        have hll := leftN_le (K := K) (v := v) (i := k)
                        have hll2 : (leftN K v k : Int) + 1 ≤ 9000000 := by omega
                        have hll0 : (0 : Int) ≤ leftN K v k := by omega
                        have hG6 := HG5.out.put1 (i := v) (by rw [leftR_len]; exact hvN) ((leftN K v k : Int) + 1)
                        rw [leftR_set HE.out hKv] at hG6
                        have HG6 := Lib.hid hG6
                        have HM6 := Lib.hid (HM5.out.turn (B := some ⟨G, 0, none⟩) ((Frm.refl _ w5).set v (intC ((leftN K v k : Int) + 1)) ⟨_, rfl, rfl⟩) HGF.out HGL.out (HM5.out.f.far (p := ⟨G, v, none⟩) (fun a ha h => by injection ha with ha; subst ha; exact HGX.out h) _))
                        clear hlk ho hv hf hll hG6 hKv
                        obtain ⟨x, hx⟩ : ∃ x, x = (leftN K v k : Int) := ⟨_, rfl⟩
                        rw [← hx] at cG hll2 hll0 HG6 HM6
                        clear hx
                        go_wp2
                        go_roundw
                        case rel => exact ⟨k + 1, by go_num, hlt, HM6.out, HG6.out⟩
                        case measure => simp [intOf] <;> omega
                      · have ho2 : k % 2 = 1 := by omega
                        rw [if_neg ho] at hlk
                        rw [hlk]
                        rw [ho2] at hmod
                        have HE := Lib.hid (show endsN K k = false by simp [endsN, ho])
                        rw [leftR_same HE.out] at HG5
                        clear hlk ho ho2 hf
                        go_wp2
                        go_roundw
                        case rel => exact ⟨k + 1, by go_num, hlt, HM5.out, HG5.out⟩
                        case measure => simp [intOf] <;> omega
                    · rw [Bool.eq_false_iff.2 hf] at cF
                      have HE := Lib.hid (show endsN K k = false by simp [endsN, hf])
                      rw [leftR_same HE.out] at HG5
                      clear hf
                      generalize look (entsP K (endsN K) c) (K k) = o
                      clear hmod
                      go_wp2
                      go_roundw
                      case rel => exact ⟨k + 1, by go_num, hlt, HM5.out, HG5.out⟩
                      case measure => simp [intOf] <;> omega
                  · have hkc : c = k := by omega
                    subst hkc
                    clear hk hlt
                    have HRV := Lib.hid (fun (v : Nat) (hv : v < N) => show (rvL N (entsP K (endsN K) c) v).length = leftN K v c ∧ (rvL N (entsP K (endsN K) c) v).Pairwise (· < ·) from by
                      have h1 : rvL N (entsP K (endsN K) c) v = rising (ofv (entsP K (endsN K) c) v) := by unfold rvL; rw [if_pos ⟨by omega, by omega⟩, Int.toNat_natCast]
                      rw [h1]
                      exact ⟨by rw [rising_len, ends_len], by rw [ofv_ents]; exact rising_ents⟩)
                    obtain ⟨L, hL⟩ : ∃ z, z = entsP K (endsN K) c := ⟨_, rfl⟩
                    have HLL := Lib.hid (show L.length ≤ 3000 by rw [hL]; exact Nat.le_trans entsP_len hc)
                    rw [← hL] at HRV HM
                    clear hL
                    go_wp2
                    go_loopw [189] (fun i wr => ∃ v : Nat, i = .int .i64 v ∧ v ≤ N ∧ Many w wr U N s t c S T V (some ⟨F, 0, none⟩) c L (freshL K c c) ∧ Row1 wr 3 intC (some ⟨G, 0, none⟩) N N (leftR K N c)) (fun i _ => N - (intOf i).toNat)
                    case atStart => exact ⟨0, rfl, Nat.zero_le _, HM.out, HG.out⟩
                    case round =>
                      clear HM HG
                      obtain ⟨v, rfl, hv, hm, hg⟩ := hrel
                      have HM := Lib.hid hm
                      have HG := Lib.hid hg
                      clear hm
                      by_cases hlt : v < N
                      · have hv0 : (0 : Int) ≤ v := by omega
                        have hv1 : (v : Int) < N := by omega
                        obtain ⟨_, h1, lG, cG⟩ := hg.at1 (leftR_at (K := K) (i := c) hlt)
                        cases h1
                        obtain ⟨hlen, hpw⟩ := HRV.out v hlt
                        have HC := Lib.hid (fun w h => uqcount_both U N L v w h)
                        have HR := Lib.hid (fun w h => uqrefs_both U N L v w h (by have := HLL.out; omega))
                        have hxl : (rvL N L v).length ≤ 3000 := Nat.le_trans (rvL_len N L v) HLL.out
                        rw [show vErr N v = 0 from if_pos ⟨hv0, hv1⟩] at HC HR
                        obtain ⟨xs, hxs⟩ : ∃ z, z = rvL N L v := ⟨_, rfl⟩
                        rw [← hxs] at HC HR hlen hpw hxl
                        rw [← hlen] at cG
                        clear hxs hlen hg
                        obtain ⟨M, hM⟩ : ∃ z, z = xs.length := ⟨_, rfl⟩
                        rw [← hM] at HC cG hxl
                        have HXS := Lib.hid hM
                        have HPW := Lib.hid hpw
                        clear hpw
                        go_wp2_with (fail)
                        refine (HC.out wr HM.out.u).mono ?_
                        rintro e w4 ⟨rfl, hw4⟩
                        subst hw4
                        go_wp2_with (fail)
                        refine (HR.out w4 HM.out.u).mono ?_
                        rw [← hM]
                        clear hM
                        rintro e w5 ⟨A5, C5, rfl, hru, _, hs5⟩
                        have HM5 := Lib.hid (HM.out.later hs5)
                        have HG5 := Lib.hid (HG.out.frm hs5 (fun _ _ => id))
                        have HRU := Lib.hid (show Row1 w5 34 (Value.int .u32) A5 M C5 xs by rw [HXS.out]; exact hru)
                        clear hru hs5 HC HR HM HG cG lG
                        go_wp2
                        go_loopw [225] (fun i wr => ∃ j : Nat, i = .int .i64 j ∧ j ≤ M ∧ Same w5 wr) (fun i _ => M - (intOf i).toNat)
                        case atStart => exact ⟨0, rfl, Nat.zero_le _, Frm.refl _ _⟩
                        case round =>
                          obtain ⟨j, rfl, hj, hs⟩ := hrel
                          have HS := Lib.hid hs
                          clear hs
                          by_cases hjl : j < M
                          · have hj0 : (0 : Int) ≤ j := by omega
                            have hj1 : (j : Int) < M := by omega
                            rcases Nat.eq_zero_or_pos j with h0 | h0
                            · subst h0
                              go_upto_region 43 with fail
                              refine wp_quiet (by kernel_rfl) (by kernel_rfl) ?_
                              repeat (any_goals (first | go_big_quiet_step (fail) | quiet_step (fail)))
                              refine wpQuiet_nil ?_
                              rintro w' ⟨p, hp⟩
                              have HSP := Lib.hid (HS.out.trans (show Same wr w' by rw [hp]; exact more_same _ _) (fun _ _ h => h))
                              clear hp
                              go_wp2
                              go_roundw
                              case rel => exact ⟨0 + 1, by go_num, hjl, HSP.out⟩
                              case measure => simp [intOf] <;> omega
                            · obtain ⟨i, rfl⟩ : ∃ i, j = i + 1 := ⟨j - 1, by omega⟩
                              obtain ⟨x, hx⟩ : ∃ x, xs[i]? = some x := ⟨_, List.getElem?_eq_getElem (by rw [← HXS.out]; omega)⟩
                              obtain ⟨y, hy⟩ : ∃ y, xs[i + 1]? = some y := ⟨_, List.getElem?_eq_getElem (by rw [← HXS.out]; omega)⟩
                              have hxy := rise_at HPW.out hx hy
                              have hge : ¬ x ≥ y := by omega
                              have hr' := HRU.out.frm HS.out (fun _ _ => id)
                              obtain ⟨b, rfl, lb, c1⟩ := hr'.at1 hx
                              obtain ⟨_, h1, _, c2⟩ := hr'.at1 hy
                              cases h1
                              have hcast : ((i + 1 : Nat) : Int) - 1 = (i : Int) := by omega
                              have hi0 : (0 : Int) ≤ i := by omega
                              have hi1 : (i : Int) < M := by omega
                              have hpos : ((i + 1 : Nat) : Int) > 0 := by omega
                              have hwi : IntKind.i64.wrap (((i + 1 : Nat) : Int) - 1) = (i : Int) := by rw [hcast, IntWalk.i64_in _ (by omega)]
                              clear hx hy hr'
                              go_upto_region 43 with fail
                              refine wp_quiet (by kernel_rfl) (by kernel_rfl) ?_
                              repeat (any_goals (first | go_big_quiet_step (fail) | quiet_step (fail)))
                              refine wpQuiet_nil ?_
                              rintro w' ⟨p, hp⟩
                              have HSP := Lib.hid (HS.out.trans (show Same wr w' by rw [hp]; exact more_same _ _) (fun _ _ h => h))
                              clear hp
                              go_wp2
                              go_roundw
                              case rel => exact ⟨i + 1 + 1, by go_num, hjl, HSP.out⟩
                              case measure => simp [intOf] <;> omega
                          · go_wp2
                            go_roundw
                            case rel => exact ⟨v + 1, by go_num, hlt, HM5.out.later HS.out, HG5.out.frm HS.out (fun _ _ => id)⟩
                            case measure => simp [intOf] <;> omega
                      · go_wp2
                        go_ret
                        exact ⟨rfl, HM.out.s⟩
  · go_wp2_with (fail)
    refine (uqnew_bad vars hv w2).mono ?_
    rintro e w3 ⟨rfl, rfl⟩
    clear hv
    go_wp2
    go_ret
    exact ⟨rfl, HS2.out⟩
end Go.Proofs.Ytkelbbalffijbaa


/- The walk of UqMany beside the given rows. -/
