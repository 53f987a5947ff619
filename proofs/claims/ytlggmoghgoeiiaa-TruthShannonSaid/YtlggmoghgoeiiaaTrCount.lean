/- Truth tables: Count of the program; Twin of the reference; small, alike. -/
import Derived.Test.YtlggmoghgoeiiaaPopW
import Derived.Test.YtlggmoghgoeiiaaTrDoc1
import Derived.Test.YtlggmoghgoeiiaaApp
namespace Go.Proofs.Ytlggmoghgoeiiaa
open Go.RowKit Go.Tk

theorem u_flat : ∀ ws : List Nat, ws.flatMap ucell = ws.map fun x : Nat => Value.int .u64 (x : Int)
  | [] => rfl
  | x :: ws => by rw [List.flatMap_cons, List.map_cons, u_flat ws]; rfl
theorem same_grown {w0 w1 : World} {A : Option Addr} {N C : Nat} (hg : w0.grownBy w1 (Value.slice A N C).ownBlock) (hA : Fresh w0.heap.size A) : Same w0 w1 := (Frm.refl _ _).grown hg (fun g hg => .inr (hA g (ownBlock_row.1 hg)))
/-- the ones of the first k words -/
def popS (ws : List Nat) (k : Nat) : Nat := ((ws.take k).map popc).sum
theorem popc_le (x : Nat) : popc x ≤ 64 := cntB_le _ 64
theorem popS_succ {ws : List Nat} {k x : Nat} (h : ws[k]? = some x) : popS ws (k + 1) = popS ws k + popc x := by
  unfold popS
  rw [List.take_add_one, h]
  simp
theorem popS_le (ws : List Nat) : ∀ k, popS ws k ≤ 64 * k
  | 0 => by simp [popS]
  | k + 1 => by
    have ih := popS_le ws k
    cases h : ws[k]? with
    | none =>
      have : popS ws (k + 1) = popS ws k := by
        unfold popS
        rw [List.take_add_one, h]
        simp
      omega
    | some x =>
      rw [popS_succ h]
      have := popc_le x
      omega
set_option maxRecDepth 100000 in
set_option maxHeartbeats 4000000 in
theorem Count_any (Na : Int) (Aa : Option Addr) (Ca : Nat) (wsa : List Nat) (w : World) (h : TbOk w ⟨Na, Aa, Ca, wsa⟩) : Calls Try.prog 22 #[.agg #[.int .i64 Na, .slice Aa wsa.length Ca]] w fun e w' => e = .returned (.tuple #[.int .u64 ((if frm Na wsa then popS wsa wsa.length else 0 : Nat) : Nat), .int .i64 (fmE (frm Na wsa))]) ∧ Same w w' := by
  have H := Lib.hid h
  clear h
  cases hfr : frm Na wsa with
  | false =>
    rw [if_neg (by decide), show fmE false = 5 from rfl]
    have HFM := Lib.hid ((frm_one Na Aa Ca wsa).trans hfr)
    clear hfr
    go_enter Try.func22, Try.ntmps22
    go_upto_region 1 with fail
    refine wp_world fun w1 hw1 => ?_
    have hs1 : Same w w1 := by rw [hw1]; exact (Frm.refl _ _).alloc _
    have hBXa : Blk w1 (w.heap.size) 24 #[.int .i64 Na, .slice Aa wsa.length Ca] := by
      rw [hw1]
      have := (Blk.new w 24 #[.int .i64 Na, .slice Aa wsa.length Ca])
      simpa using this
    clear hw1
    have cXa0 : w1.cell? ⟨w.heap.size, 0, none⟩ = some (.int .i64 Na) := hBXa.cell 0
    have cXa1 : w1.cell? ⟨w.heap.size, 1, none⟩ = some (.slice Aa wsa.length Ca) := hBXa.cell 1
    have lXa := hBXa.lt
    have fXa0 := hBXa.free 0
    have fXa1 := hBXa.free 1
    have HBXa := Lib.hid hBXa
    have HS1 := Lib.hid hs1
    clear hs1 hBXa
    have HOKa := Lib.hid (H.out.same HS1.out)
    go_wp2_with (fail)
    refine call_world fun w2 hw2 => ?_
    have hs2 : Same w1 w2 := by rw [hw2]; exact (Frm.refl _ _).alloc _
    have hBL : Blk w2 w1.heap.size 24 #[.int .i64 Na, .slice Aa wsa.length Ca] := by rw [hw2]; exact Blk.new _ _ _
    have htbs : Tbs w2 w1.heap.size [⟨Na, Aa, Ca, wsa⟩] := by
      intro i t hi
      match i, hi with
      | 0, hi =>
        simp only [List.getElem?_cons_zero, Option.some.injEq] at hi
        subst hi
        exact ⟨hBL.lt, hBL.cell 0, hBL.cell 1⟩
      | i + 1, hi => simp at hi
    have hfc := form_any w1.heap.size 1 1 [⟨Na, Aa, Ca, wsa⟩] w2 rfl (by decide) htbs (fun t ht => by
      simp only [List.mem_cons, List.not_mem_nil, or_false] at ht
      rcases ht with rfl
      · exact (HOKa.out).same hs2)
    rw [HFM.out] at hfc
    refine hfc.mono ?_
    clear hfc htbs hBL hw2
    rintro e w3 ⟨rfl, hs3⟩
    have hs13 : Same w1 w3 := hs2.trans hs3 (fun _ _ h => h)
    clear hs2 hs3
    replace HBXa := Lib.hid (HBXa.out.frm hs13 id)
    replace cXa0 : w3.cell? ⟨w.heap.size, 0, none⟩ = some (.int .i64 Na) := HBXa.out.cell 0
    replace cXa1 : w3.cell? ⟨w.heap.size, 1, none⟩ = some (.slice Aa wsa.length Ca) := HBXa.out.cell 1
    replace lXa := HBXa.out.lt
    replace fXa0 := HBXa.out.free 0
    replace fXa1 := HBXa.out.free 1
    replace HS1 := Lib.hid (HS1.out.trans hs13 (fun _ _ h => h))
    clear hs13
    go_wp2
    go_ret2
    exact ⟨rfl, HS1.out⟩
  | true =>
    obtain ⟨n, rfl, hform⟩ := frm_true hfr
    rw [if_pos rfl, show fmE true = 0 from rfl]
    obtain ⟨pf, hpf⟩ : ∃ p, popS wsa wsa.length = p := ⟨_, rfl⟩
    rw [hpf]
    have HPF := Lib.hid hpf
    clear hpf
    have HFM := Lib.hid ((frm_one n Aa Ca wsa).trans hfr)
    have hn := hform.n16
    have hl16 : wsa.length ≤ 1024 := by rw [hform.len]; exact nw_le hn
    clear hfr hform
    go_enter Try.func22, Try.ntmps22
    go_upto_region 1 with fail
    refine wp_world fun w1 hw1 => ?_
    have hs1 : Same w w1 := by rw [hw1]; exact (Frm.refl _ _).alloc _
    have hBXa : Blk w1 (w.heap.size) 24 #[.int .i64 n, .slice Aa wsa.length Ca] := by
      rw [hw1]
      have := (Blk.new w 24 #[.int .i64 n, .slice Aa wsa.length Ca])
      simpa using this
    clear hw1
    have cXa0 : w1.cell? ⟨w.heap.size, 0, none⟩ = some (.int .i64 n) := hBXa.cell 0
    have cXa1 : w1.cell? ⟨w.heap.size, 1, none⟩ = some (.slice Aa wsa.length Ca) := hBXa.cell 1
    have lXa := hBXa.lt
    have fXa0 := hBXa.free 0
    have fXa1 := hBXa.free 1
    have HBXa := Lib.hid hBXa
    have HS1 := Lib.hid hs1
    clear hs1 hBXa
    have HOKa := Lib.hid (H.out.same HS1.out)
    go_wp2_with (fail)
    refine call_world fun w2 hw2 => ?_
    have hs2 : Same w1 w2 := by rw [hw2]; exact (Frm.refl _ _).alloc _
    have hBL : Blk w2 w1.heap.size 24 #[.int .i64 n, .slice Aa wsa.length Ca] := by rw [hw2]; exact Blk.new _ _ _
    have htbs : Tbs w2 w1.heap.size [⟨n, Aa, Ca, wsa⟩] := by
      intro i t hi
      match i, hi with
      | 0, hi =>
        simp only [List.getElem?_cons_zero, Option.some.injEq] at hi
        subst hi
        exact ⟨hBL.lt, hBL.cell 0, hBL.cell 1⟩
      | i + 1, hi => simp at hi
    have hfc := form_any w1.heap.size 1 1 [⟨n, Aa, Ca, wsa⟩] w2 rfl (by decide) htbs (fun t ht => by
      simp only [List.mem_cons, List.not_mem_nil, or_false] at ht
      rcases ht with rfl
      · exact (HOKa.out).same hs2)
    rw [HFM.out] at hfc
    refine hfc.mono ?_
    clear hfc htbs hBL hw2
    rintro e w3 ⟨rfl, hs3⟩
    have hs13 : Same w1 w3 := hs2.trans hs3 (fun _ _ h => h)
    clear hs2 hs3
    replace HBXa := Lib.hid (HBXa.out.frm hs13 id)
    replace cXa0 : w3.cell? ⟨w.heap.size, 0, none⟩ = some (.int .i64 n) := HBXa.out.cell 0
    replace cXa1 : w3.cell? ⟨w.heap.size, 1, none⟩ = some (.slice Aa wsa.length Ca) := HBXa.out.cell 1
    replace lXa := HBXa.out.lt
    replace fXa0 := HBXa.out.free 0
    replace fXa1 := HBXa.out.free 1
    replace HS1 := Lib.hid (HS1.out.trans hs13 (fun _ _ h => h))
    clear hs13
    obtain ⟨L, hL⟩ : ∃ L, wsa.length = L := ⟨_, rfl⟩
    rw [hL] at cXa1 hl16 ⊢
    have HL := Lib.hid hL
    clear hL
    go_wp2
    go_loopw [4, 14] (fun s i wr => ∃ k : Nat, k ≤ L ∧ i = .int .i64 k ∧ s = .int .i64 (popS wsa k : Nat) ∧ w3 = wr) (fun _ i _ => L - (intOf i).toNat)
    case atStart => exact ⟨0, by omega, rfl, by simp [popS], rfl⟩
    case round =>
      obtain ⟨k, hk, rfl, rfl, rfl⟩ := hrel
      have hpl := popS_le wsa k
      by_cases hlt : k < L
      · have hk0 : (0 : Int) ≤ k := by omega
        have hk1 : (k : Int) < L := by omega
        obtain ⟨x, hx⟩ : ∃ x, wsa[k]? = some x := ⟨_, List.getElem?_eq_getElem (by rw [HL.out]; exact hlt)⟩
        obtain ⟨bq, offq, hA, hbl, hcq⟩ := WL.at1 (Sl.same H.out.wl HS1.out) hx
        simp only at hA
        subst hA
        have hsc := popS_succ hx
        have hxs := H.out.small.at1 hx
        have hpx := popc_le x
        have hone := fun w => ones_any x w hxs
        generalize popc x = px at *
        have HONE := Lib.hid hone
        have HSC := Lib.hid hsc
        clear hsc hx hone
        generalize popS wsa k = ps at *
        have hq : wrap64 ((ps : Int) + px) = ((ps + px : Nat) : Int) := by rw [IntWalk.wrap64_in _ (by omega)]; omega
        go_wp2_with (fail)
        refine (HONE.out w3).mono ?_
        rintro e w4 ⟨rfl, rfl⟩
        go_wp2
        go_roundw
        case rel => exact ⟨k + 1, by omega, by go_num, by rw [HSC.out]; go_num, trivial⟩
        case measure => simp [intOf]; omega
      · obtain rfl : k = L := by omega
        have hq : IntKind.u64.wrap ((popS wsa k : Nat) : Int) = ((popS wsa k : Nat) : Int) := IntWalk.u64_in _ (by omega)
        have hpe : popS wsa k = pf := by rw [← HPF.out, HL.out]
        rw [hpe] at hq hpl ⊢
        clear hpe
        go_wp2
        go_ret2
        exact ⟨rfl, HS1.out⟩

set_option maxHeartbeats 1000000 in
theorem rtwin_any (N : Int) (A : Option Addr) (C : Nat) (ws : List Nat) (w : World) (h : WL w A ws.length ws) (hr : ws.length * 8 ≤ 140737488351232) :
    Calls Try.prog 15 #[.agg #[.int .i64 N, .slice A ws.length C]] w (RetT w N ws) := by
  have H := Lib.hid h
  clear h
  go_enter Try.func15, Try.ntmps15
  go_upto_region 2 with fail
  refine wp_world fun w1 hw1 => ?_
  have hs1 : Same w w1 := by rw [hw1]; exact ((Frm.refl _ _).alloc _).alloc _
  have hBXa : Blk w1 (w.heap.size) 24 #[.int .i64 N, .slice A ws.length C] := by
    rw [hw1]
    have := ((Blk.new w 24 #[.int .i64 N, .slice A ws.length C]).alloc (.cells #[.int .i64 0, .slice none 0 0] 24))
    simpa using this
  have hBR : Blk w1 (w.heap.size + 1) 24 #[.int .i64 0, .slice none 0 0] := by
    rw [hw1]
    have := (Blk.new (w.alloc (.cells #[.int .i64 N, .slice A ws.length C] 24)) 24 #[.int .i64 0, .slice none 0 0])
    simpa using this
  clear hw1
  obtain ⟨R, hR⟩ : ∃ b, w.heap.size + 1 = b := ⟨_, rfl⟩
  rw [hR] at hBR ⊢
  have leR : w.heap.size ≤ R := by omega
  have neXaR : w.heap.size ≠ R := by omega
  clear hR
  have cXa0 : w1.cell? ⟨w.heap.size, 0, none⟩ = some (.int .i64 N) := hBXa.cell 0
  have cXa1 : w1.cell? ⟨w.heap.size, 1, none⟩ = some (.slice A ws.length C) := hBXa.cell 1
  have lXa := hBXa.lt
  have fXa0 := hBXa.free 0
  have fXa1 := hBXa.free 1
  have HBXa := Lib.hid hBXa
  have cR0 : w1.cell? ⟨R, 0, none⟩ = some (.int .i64 0) := hBR.cell 0
  have cR1 : w1.cell? ⟨R, 1, none⟩ = some (.slice none 0 0) := hBR.cell 1
  have lR := hBR.lt
  have fR0 := hBR.free 0
  have fR1 := hBR.free 1
  have HBR := Lib.hid hBR
  have HS1 := Lib.hid hs1
  clear hs1 hBXa hBR
  refine wp_read 3 ?_
  simp only [List.take_succ_cons, List.take_zero, List.drop_succ_cons, List.drop_zero]
  repeat (any_goals (first | go_big_quiet_step (fail) | quiet_step (fail)))
  refine wpQuiet_nil ?_
  refine wpList_plain rfl fun K hK => ?_
  refine Own.append_many (.tmp 4) (.tmp 6) _ rfl Try.underlying22 info_u64 rfl (by omega) rfl (Own.nil w1 _ _ _) ucell_len ws A C rfl (fun hne => ?_) (by simp [ucell, Value.oneCell']) (by simp [maxLen]; omega) (by simp; omega) ?_
  · obtain ⟨x, hx0⟩ : ∃ x, ws[0]? = some x := ⟨_, List.getElem?_eq_getElem (List.length_pos_iff.2 hne)⟩
    obtain ⟨b, off, rfl, _, _⟩ := WL.at1 (Sl.same H.out HS1.out) hx0
    refine ⟨_, rfl, fun j u hj => ?_⟩
    have hfm : ws.flatMap ucell = ws.map fun x : Nat => Value.int .u64 (x : Int) := u_flat ws
    rw [hfm, List.getElem?_map] at hj
    obtain ⟨x', hx', rfl⟩ := Option.map_eq_some_iff.1 hj
    obtain ⟨b2, off2, hA, _, hc⟩ := WL.at1 (Sl.same H.out HS1.out) hx'
    injection hA with hA
    injection hA with h1 h2
    subst h1 h2
    by_cases hj0 : j = 0
    · subst hj0; simpa [Addr.add] using hc
    · simpa [Addr.add, hj0] using hc
  intro Aq Cq wq hoq hgq hrq
  rw [List.nil_append] at hoq
  have hsq : Same w1 wq := same_grown hgq (fresh_none _)
  have hfq' : Fresh w.heap.size Aq := fun b hb => by
    have := HS1.out.size
    rcases hrq b hb with ⟨a, h, _⟩ | h
    · cases h
    · omega
  have hRq : ∀ a, Aq = some a → a.block ≠ R := fun a ha h => by
    rcases hrq a.block ⟨a, ha, rfl⟩ with ⟨a, h, _⟩ | h
    · cases h
    · omega
  have HBRq := Lib.hid (HBR.out.frm hsq id)
  have HBXq := Lib.hid (HBXa.out.frm hsq id)
  have HSq := Lib.hid (HS1.out.trans hsq (fun _ _ h => h))
  have HOQ := Lib.hid hoq
  have HFQ := Lib.hid hfq'
  refine hK _ _ ?_
  clear hK K
  have hcR0 : wq.cell? ⟨R, 0, none⟩ = some (.int .i64 0) := HBRq.out.cell 0
  have hcR1 : wq.cell? ⟨R, 1, none⟩ = some (.slice none 0 0) := HBRq.out.cell 1
  have hfR0 := HBRq.out.free 0
  have hfR1 := HBRq.out.free 1
  have hlR := HBRq.out.lt
  have hcX0 : wq.cell? ⟨w.heap.size, 0, none⟩ = some (.int .i64 N) := HBXq.out.cell 0
  have hcX1 : wq.cell? ⟨w.heap.size, 1, none⟩ = some (.slice A ws.length C) := HBXq.out.cell 1
  have hlX := HBXq.out.lt
  clear hgq hrq hoq hfq' hsq cXa0 cXa1 fXa0 fXa1 cR0 cR1 fR0 fR1 lXa lR
  go_wp2
  refine wp_post fun we hwe => ?_
  have hBE : Blk we R 24 #[.int .i64 N, .slice Aq ws.length Cq] := by
    rw [hwe]
    have := (HBRq.out.set 0 (.int .i64 N)).set 1 (.slice Aq ws.length Cq)
    simpa using this
  have hSE : Same w we := by rw [hwe]; exact (HSq.out.setNew 0 _ leR).setNew 1 _ leR
  have hOE : OwnW we Aq ws.length Cq ws := by
    rw [hwe]
    exact (Own.far (p := ⟨R, 0, none⟩) HOQ.out hRq _).far (p := ⟨R, 1, none⟩) hRq _
  have hr0 : we.cell? ⟨R, 0, none⟩ = some (.int .i64 N) := hBE.cell 0
  have hr1 : we.cell? ⟨R, 1, none⟩ = some (.slice Aq ws.length Cq) := hBE.cell 1
  clear hwe hBE
  refine bodyPost_ret (v := .agg #[.int .i64 N, .slice Aq ws.length Cq]) (by simp [results, Try.results15, go_sem, hr0, hr1]) rfl ?_
  exact ⟨Aq, Cq, rfl, hOE, HFQ.out, hSE⟩
end Go.Proofs.Ytlggmoghgoeiiaa
