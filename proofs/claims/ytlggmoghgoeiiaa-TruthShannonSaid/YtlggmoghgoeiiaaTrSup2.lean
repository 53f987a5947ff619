/- Truth tables: Support of the reference; TruthTells: the walk. -/
import Derived.Test.YtlggmoghgoeiiaaTrSup
namespace Go.Proofs.Ytlggmoghgoeiiaa
open Go.RowKit Go.Tk

set_option maxRecDepth 100000 in
set_option maxHeartbeats 8000000 in
theorem docSupport_any (Na : Int) (Aa : Option Addr) (Ca : Nat) (wsa : List Nat) (w : World) (h : TbOk w ⟨Na, Aa, Ca, wsa⟩) : Calls Try.prog 42 #[.agg #[.int .i64 Na, .slice Aa wsa.length Ca]] w fun e w' => e = .returned (.tuple #[.int .u64 (supN Na wsa : Nat), .int .i64 (fmE (frm Na wsa))]) ∧ Same w w' := by
  have Ha := Lib.hid h
  have hrf := fun (w' : World) (hs : Same w w') => rForm_any Na Aa _ Ca wsa w' (Sl.same h.wl hs) h.small
  simp only at hrf
  clear h
  unfold supN
  cases hfr : frm Na wsa with
  | false =>
    rw [if_neg (by decide), show fmE false = 5 from rfl]
    rw [hfr] at hrf
    have HRF := Lib.hid hrf
    clear hfr hrf
    go_enter Try.func42, Try.ntmps42
    go_upto_region 1 with fail
    refine wp_world fun w1 hw1 => ?_
    have hs1 : Same w w1 := by rw [hw1]; exact (Frm.refl _ _).alloc _
    have hBXa : Blk w1 (w.heap.size) 24 #[.int .i64 Na, .slice Aa wsa.length Ca] := by
      rw [hw1]
      have := (Blk.new w 24 #[.int .i64 Na, .slice Aa wsa.length Ca])
      simpa using this
    clear hw1
    have cXa0 : w1.cell? ⟨w.heap.size, 0, none⟩ = some (.int .i64 Na) := hBXa.cell 0
    have cXa1 : w1.cell? ⟨w.heap.size, 1, none⟩ = some (.slice Aa wsa.length Ca) := hBXa.cell 1
    have lXa := hBXa.lt
    have fXa0 := hBXa.free 0
    have fXa1 := hBXa.free 1
    have HBXa := Lib.hid hBXa
    have HS1 := Lib.hid hs1
    clear hs1 hBXa
    go_wp2_with (fail)
    refine (HRF.out w1 HS1.out).mono ?_
    rintro e w3 ⟨rfl, hs13⟩
    replace HBXa := Lib.hid (HBXa.out.frm hs13 id)
    replace cXa0 : w3.cell? ⟨w.heap.size, 0, none⟩ = some (.int .i64 Na) := HBXa.out.cell 0
    replace cXa1 : w3.cell? ⟨w.heap.size, 1, none⟩ = some (.slice Aa wsa.length Ca) := HBXa.out.cell 1
    replace lXa := HBXa.out.lt
    replace fXa0 := HBXa.out.free 0
    replace fXa1 := HBXa.out.free 1
    replace HS1 := Lib.hid (HS1.out.trans hs13 (fun _ _ h => h))
    clear hs13
    go_wp2
    go_ret2
    exact ⟨rfl, HS1.out⟩
  | true =>
    rw [hfr] at hrf
    obtain ⟨n, rfl, hform⟩ := frm_true hfr
    rw [if_pos rfl, show fmE true = 0 from rfl, Int.toNat_natCast]
    have HRF := Lib.hid hrf
    have HFa := Lib.hid hform
    have hn := hform.n16
    clear hrf hfr hform
    have hMp0 : 0 < 2 ^ n := Nat.pow_pos (by omega)
    have hp16 := pow_le16 hn
    have hwl := fun (v i : Nat) (b : Bool) (hi : i < 2 ^ n) (hv : v < n) => wth_lt (b := b) hi hv
    have hdf := fun (v : Nat) (h : ∀ i, i < 2 ^ n → hfF v false wsa i = hfF v true wsa i) => depB_false (n := n) h
    have hdt := fun (v i : Nat) (hi : i < 2 ^ n) (h : hfF v false wsa i ≠ hfF v true wsa i) => depB_true (n := n) hi h
    obtain ⟨M, hM⟩ : ∃ M, 2 ^ n = M := ⟨_, rfl⟩
    rw [hM] at hp16 hMp0 hwl hdf hdt
    have hMp := hMp0
    have HM := Lib.hid hM
    have HWL := Lib.hid hwl
    have HDF := Lib.hid hdf
    have HDT := Lib.hid hdt
    clear hM hMp0 hwl hdf hdt
    obtain ⟨pf, hpf⟩ : ∃ p, bsum (depB n wsa) n = p := ⟨_, rfl⟩
    rw [hpf]
    have HPF := Lib.hid hpf
    clear hpf
    go_enter Try.func42, Try.ntmps42
    go_upto_region 1 with fail
    refine wp_world fun w1 hw1 => ?_
    have hs1 : Same w w1 := by rw [hw1]; exact (Frm.refl _ _).alloc _
    have hBXa : Blk w1 (w.heap.size) 24 #[.int .i64 n, .slice Aa wsa.length Ca] := by
      rw [hw1]
      have := (Blk.new w 24 #[.int .i64 n, .slice Aa wsa.length Ca])
      simpa using this
    clear hw1
    have cXa0 : w1.cell? ⟨w.heap.size, 0, none⟩ = some (.int .i64 n) := hBXa.cell 0
    have cXa1 : w1.cell? ⟨w.heap.size, 1, none⟩ = some (.slice Aa wsa.length Ca) := hBXa.cell 1
    have lXa := hBXa.lt
    have fXa0 := hBXa.free 0
    have fXa1 := hBXa.free 1
    have HBXa := Lib.hid hBXa
    have HS1 := Lib.hid hs1
    clear hs1 hBXa
    go_wp2_with (fail)
    refine (HRF.out w1 HS1.out).mono ?_
    rintro e w3 ⟨rfl, hs13⟩
    replace HBXa := Lib.hid (HBXa.out.frm hs13 id)
    replace cXa0 : w3.cell? ⟨w.heap.size, 0, none⟩ = some (.int .i64 n) := HBXa.out.cell 0
    replace cXa1 : w3.cell? ⟨w.heap.size, 1, none⟩ = some (.slice Aa wsa.length Ca) := HBXa.out.cell 1
    replace lXa := HBXa.out.lt
    replace fXa0 := HBXa.out.free 0
    replace fXa1 := HBXa.out.free 1
    replace HS1 := Lib.hid (HS1.out.trans hs13 (fun _ _ h => h))
    clear hs13
    go_wp2_with (fail)
    refine (values_any n Ca Aa wsa w3 (Ha.out.same HS1.out) HFa.out).mono ?_
    rintro e w4 ⟨Al, CL, rfl, hNB⟩
    rw [HM.out] at hNB ⊢
    obtain ⟨L, rfl, hLl⟩ := Own.form1 hNB.1 (by rw [vals_len]; exact hMp)
    have hLn : w3.heap.size ≤ L := hNB.2.1 L ⟨_, rfl, rfl⟩
    have hsv := hNB.2.2
    have hOL := hNB.1
    rw [vals_len] at hOL
    have HOL := Lib.hid hOL
    clear hNB hOL
    replace HBXa := Lib.hid (HBXa.out.frm hsv id)
    replace cXa0 : w4.cell? ⟨w.heap.size, 0, none⟩ = some (.int .i64 n) := HBXa.out.cell 0
    replace cXa1 : w4.cell? ⟨w.heap.size, 1, none⟩ = some (.slice Aa wsa.length Ca) := HBXa.out.cell 1
    replace lXa := HBXa.out.lt
    replace fXa0 := HBXa.out.free 0
    replace fXa1 := HBXa.out.free 1
    replace HS1 := Lib.hid (HS1.out.trans hsv (fun _ _ h => h))
    clear hsv
    go_wp2
    go_loopw [5, 6] (fun s i wr => ∃ k : Nat, k ≤ n ∧ i = .int .i64 k ∧ s = .int .u64 (bsum (depB n wsa) k : Nat) ∧ Same w4 wr) (fun _ i _ => n - (intOf i).toNat)
    case atStart => exact ⟨0, by omega, rfl, rfl, Frm.refl _ _⟩
    case round =>
      obtain ⟨k, hk, rfl, rfl, hs⟩ := hrel
      have HS0 := Lib.hid hs
      have HBr := Lib.hid (HBXa.out.frm hs id)
      have dX0 : wr.cell? ⟨w.heap.size, 0, none⟩ = some (.int .i64 n) := HBr.out.cell 0
      have dXl := HBr.out.lt
      clear cXa0 cXa1 fXa0 fXa1 lXa hs
      by_cases hlt : k < n
      · have hk1 : (k : Int) < n := by omega
        have hbl := bsum_lt (depB n wsa) k
        have hpk : 2 ^ k ≤ 2 ^ 15 := Nat.pow_le_pow_right (by omega) (by omega)
        have hst := bsum_add (depB n wsa) k
        have HST := Lib.hid hst
        have hsw : IntKind.u64.wrap ((2 : Int) ^ k) = ((2 ^ k : Nat) : Int) := by
          rw [pow_int]
          generalize 2 ^ k = p at hpk
          exact IntWalk.u64_in _ (by omega)
        have hk0 : (0 : Int) ≤ k := by omega
        have hmk : min k 64 = k := by omega
        have hadd : IntKind.u64.wrap (((bsum (depB n wsa) k : Nat) : Int) + 2 ^ k) = ((bsum (depB n wsa) k + 2 ^ k : Nat) : Int) := by
          rw [pow_int]
          generalize 2 ^ k = p at hpk hbl
          rw [IntWalk.u64_in _ (by omega)]
          simp
        have hadd2 : IntKind.u64.wrap (((bsum (depB n wsa) k : Nat) : Int) + ((2 ^ k : Nat) : Int)) = ((bsum (depB n wsa) k + 2 ^ k : Nat) : Int) := by
          rw [← pow_int]
          exact hadd
        have HLK := Lib.hid hlt
        clear hst
        generalize bsum (depB n wsa) k = bs at *
        go_wp2
        refine wp_world fun wq hwq => ?_
        subst hwq
        go_loopw [5, 21] (fun sv i wr => ∃ m : Nat, m ≤ M ∧ i = .int .i64 m ∧ sv = .int .u64 (bs : Nat) ∧ (∀ j, j < m → hfF k false wsa j = hfF k true wsa j) ∧ Same w4 wr) (fun _ i _ => M - (intOf i).toNat)
        case atStart => exact ⟨0, by omega, rfl, rfl, fun j hj => by omega, HS0.out⟩
        case round =>
          obtain ⟨m, hm, rfl, rfl, hall, hs⟩ := hrel
          have HALL := Lib.hid hall
          have HS5 := Lib.hid hs
          have HB5 := Lib.hid (HBXa.out.frm hs id)
          have eX0 : wr.cell? ⟨w.heap.size, 0, none⟩ = some (.int .i64 n) := HB5.out.cell 0
          have eXl := HB5.out.lt
          have hOL := Own.frm HOL.out hs (fun _ _ => id)
          clear hall hs dX0 dXl
          by_cases hlm : m < M
          · have hm0 : (0 : Int) ≤ m := by omega
            have hm1 : (m : Int) < M := by omega
            have hw0 := HWL.out k m false hlm HLK.out
            have hw1 := HWL.out k m true hlm HLK.out
            have h0 : hfF k false wsa m = vb wsa (wth m k false) := rfl
            have h1 : hfF k true wsa m = vb wsa (wth m k true) := rfl
            have hwi : ∀ w', Calls Try.prog 55 #[.int .i64 m, .int .i64 k, .bool false] w' fun e w'' => e = .returned (.int .i64 (wth m k false : Nat)) ∧ w' = w'' := fun w' => with_any m k false w' (by omega) (by omega)
            have hwj : ∀ w', Calls Try.prog 55 #[.int .i64 m, .int .i64 k, .bool true] w' fun e w'' => e = .returned (.int .i64 (wth m k true : Nat)) ∧ w' = w'' := fun w' => with_any m k true w' (by omega) (by omega)
            have HWI := Lib.hid hwi
            have HWJ := Lib.hid hwj
            have H0 := Lib.hid h0
            have H1 := Lib.hid h1
            clear hwi hwj h0 h1
            generalize wth m k false = ix at *
            generalize wth m k true = iy at *
            obtain ⟨hLl2, hLc⟩ := OwnB.cell hOL hw0
            obtain ⟨_, hLd⟩ := OwnB.cell hOL hw1
            rw [← H0.out] at hLc
            rw [← H1.out] at hLd
            have hix0 : (0 : Int) ≤ ix := by omega
            have hix1 : (ix : Int) < M := by omega
            have hiy0 : (0 : Int) ≤ iy := by omega
            have hiy1 : (iy : Int) < M := by omega
            by_cases heq : hfF k false wsa m = hfF k true wsa m
            · have HEQ := Lib.hid heq
              rw [heq] at hLc
              clear heq H0 H1 hOL
              generalize hfF k true wsa m = g at hLc hLd
              cases g
              · go_upto_region 11 with fail
                refine wp_phS (fun _ => False) [([0, 1, 2, 6, 7, 8], 3), ([4, 5], 9), ([10, 11], 12)] (by kernel_rfl) (by kernel_rfl) ?_
                simp only [wpPh, pick, List.map_cons, List.map_nil, List.getD_cons_zero, List.getD_cons_succ]
                repeat (any_goals (first | go_big_quiet_step (fail) | quiet_step (fail)))
                refine wpQuiet_nil ?_
                refine effStep_plain rfl fun K hK => ?_
                go_simp
                refine (HWI.out _).mono ?_
                rintro e u ⟨rfl, rfl⟩
                refine hK _ _ (Lat.mk_ (Frm.drew (Frm.refl _ _))) ?_
                clear hK K
                repeat (any_goals (first | go_big_quiet_step (fail) | quiet_step (fail)))
                refine wpQuiet_nil ?_
                refine effStep_plain rfl fun K hK => ?_
                go_simp
                refine (HWJ.out _).mono ?_
                rintro e u ⟨rfl, rfl⟩
                refine hK _ _ (Lat.mk_ (Frm.drew (Frm.refl _ _))) ?_
                clear hK K
                repeat (any_goals (first | go_big_quiet_step (fail) | quiet_step (fail)))
                refine wpQuiet_nil ?_
                have hsz : Same wr wr.drew := (Frm.refl _ _).drew
                go_wp2
                go_roundw
                case rel => exact ⟨m + 1, by omega, by go_num, rfl, fun j hj => by
                  by_cases hjm : j < m
                  · exact HALL.out j hjm
                  · obtain rfl : j = m := by omega
                    exact HEQ.out, HS5.out.trans hsz (fun _ _ h => h)⟩
                case measure => simp [intOf]; omega
              · go_upto_region 11 with fail
                refine wp_phS (fun _ => False) [([0, 1, 2, 6, 7, 8], 3), ([4, 5], 9), ([10, 11], 12)] (by kernel_rfl) (by kernel_rfl) ?_
                simp only [wpPh, pick, List.map_cons, List.map_nil, List.getD_cons_zero, List.getD_cons_succ]
                repeat (any_goals (first | go_big_quiet_step (fail) | quiet_step (fail)))
                refine wpQuiet_nil ?_
                refine effStep_plain rfl fun K hK => ?_
                go_simp
                refine (HWI.out _).mono ?_
                rintro e u ⟨rfl, rfl⟩
                refine hK _ _ (Lat.mk_ (Frm.drew (Frm.refl _ _))) ?_
                clear hK K
                repeat (any_goals (first | go_big_quiet_step (fail) | quiet_step (fail)))
                refine wpQuiet_nil ?_
                refine effStep_plain rfl fun K hK => ?_
                go_simp
                refine (HWJ.out _).mono ?_
                rintro e u ⟨rfl, rfl⟩
                refine hK _ _ (Lat.mk_ (Frm.drew (Frm.refl _ _))) ?_
                clear hK K
                repeat (any_goals (first | go_big_quiet_step (fail) | quiet_step (fail)))
                refine wpQuiet_nil ?_
                have hsz : Same wr wr.drew := (Frm.refl _ _).drew
                go_wp2
                go_roundw
                case rel => exact ⟨m + 1, by omega, by go_num, rfl, fun j hj => by
                  by_cases hjm : j < m
                  · exact HALL.out j hjm
                  · obtain rfl : j = m := by omega
                    exact HEQ.out, HS5.out.trans hsz (fun _ _ h => h)⟩
                case measure => simp [intOf]; omega
            · have hd := HDT.out k m hlm heq
              rw [hd, if_pos rfl] at HST
              have hne3 : (hfF k false wsa m == hfF k true wsa m) = false := by simpa using heq
              clear heq H0 H1 hOL hd
              generalize hfF k false wsa m = g0 at *
              generalize hfF k true wsa m = g1 at *
              go_upto_region 11 with fail
              refine wp_phS (fun _ => False) [([0, 1, 2, 6, 7, 8], 3), ([4, 5], 9), ([10, 11], 12)] (by kernel_rfl) (by kernel_rfl) ?_
              simp only [wpPh, pick, List.map_cons, List.map_nil, List.getD_cons_zero, List.getD_cons_succ]
              repeat (any_goals (first | go_big_quiet_step (fail) | quiet_step (fail)))
              refine wpQuiet_nil ?_
              refine effStep_plain rfl fun K hK => ?_
              go_simp
              refine (HWI.out _).mono ?_
              rintro e u ⟨rfl, rfl⟩
              refine hK _ _ (Lat.mk_ (Frm.drew (Frm.refl _ _))) ?_
              clear hK K
              repeat (any_goals (first | go_big_quiet_step (fail) | quiet_step (fail)))
              refine wpQuiet_nil ?_
              refine effStep_plain rfl fun K hK => ?_
              go_simp
              refine (HWJ.out _).mono ?_
              rintro e u ⟨rfl, rfl⟩
              refine hK _ _ (Lat.mk_ (Frm.drew (Frm.refl _ _))) ?_
              clear hK K
              repeat (any_goals (first | go_big_quiet_step (fail) | quiet_step (fail)))
              refine wpQuiet_nil ?_
              have hsz : Same wr wr.drew := (Frm.refl _ _).drew
              go_wp2
              go_roundw
              case rel => exact ⟨k + 1, by omega, by go_num, by rw [← HST.out]; simp, HS5.out.trans hsz (fun _ _ h => h)⟩
              case measure => simp [intOf]; omega
          · obtain rfl : m = M := by omega
            have hd := HDF.out k HALL.out
            rw [hd, if_neg (by decide), Nat.add_zero] at HST
            clear hd hOL
            go_wp2
            go_roundw
            case rel => exact ⟨k + 1, by omega, by go_num, by rw [← HST.out], HS5.out⟩
            case measure => simp [intOf]; omega
      · obtain rfl : k = n := by omega
        rw [HPF.out]
        have HSf := Lib.hid (HS1.out.trans HS0.out (fun _ _ h => h))
        go_wp2
        go_ret2
        exact ⟨rfl, HSf.out⟩
end Go.Proofs.Ytlggmoghgoeiiaa
