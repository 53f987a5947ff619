/- The contracts of the reference's May and of the law's key. -/
import Derived.Test.YtbajlmaceapfpaaCacheLink
namespace Go.Proofs.Ytbajlmaceapfpaa
open Go.RowKit Go.Tk

set_option maxHeartbeats 400000 in
theorem key_any (k : Ky) (w : World) : Calls Try.prog 17 #[k.val] w fun e w' => e = .returned k.val ∧ Same w w' := by
  unfold Ky.val
  go_enter Try.func17, Try.ntmps17
  go_wp2
  refine bodyPost_ret (v := k.val) ?_ rfl ⟨rfl, ?_⟩
  · simp [results, Try.results17, go_sem, Ky.val]
  · exact ((((((Frm.refl _ _).alloc _).alloc _))))

set_option maxHeartbeats 1000000 in
theorem may_any (d : Nat) (A : Option Addr) (N C : Nat) (v0 v3 : Value) (last : Int) (es : List Ent) (k : Ky) (r : Int) (ok : Bool) (w : World) (hb : Blk w d 55 #[v0, .slice A N C, .int .i64 last, v3])
    (ho : Own w 62 5 Ent.cells A N C es) (hmax : es.length < 9223372036854775807) :
    Calls Try.prog 18 #[.pointer (some ⟨d, 0, none⟩), k.val, .int .u32 r, .bool ok] w fun e w' => e = .returned (.bool (mayB es last k r ok)) ∧ Same w w' := by
  unfold Ky.val
  go_enter Try.func18, Try.ntmps18
  go_wp2_with (fail)
  refine call_world fun w1 hw1 => ?_
  have hs1 : Same w w1 := by rw [hw1]; exact (Frm.refl _ _).alloc _
  clear hw1
  refine (find_any d A N C v0 (.int .i64 last) v3 es k w1 (hb.frm hs1 id) (ho.frm hs1 (fun _ _ => id)) hmax).mono ?_
  rintro e' w2 ⟨rfl, hs2⟩
  have hs := hs1.trans hs2 (fun _ _ h => h)
  have hB := hb.frm hs id
  have hO := ho.frm hs (fun _ _ => id)
  have h1 := hB.cell 1
  have h2 := hB.cell 2
  simp at h1 h2
  clear hb ho hs1 hs2 hB
  obtain ⟨F, hF⟩ : ∃ F, F = findI es k := ⟨_, rfl⟩
  rw [← hF]
  have HF := Lib.hid hF
  clear hF
  rcases ok with _ | _
  · clear hO
    by_cases hr : r = 0
    · subst hr
      by_cases h3 : F < 0
      · go_wp2
        go_ret
        exact ⟨by simp [mayB, ← HF.out, h3], hs⟩
      · go_wp2
        go_ret
        refine ⟨ret_bool ?_, hs⟩
        simp [mayB, ← HF.out, bne]
        by_cases hh : F = last <;> simp [hh]
    · have hr' : (r == 0) = false := by simpa using hr
      go_wp2
      go_ret
      exact ⟨by simp [mayB, hr], hs⟩
  · rcases findI_cases es k with ⟨h3, _⟩ | ⟨i, e, h3, he, _⟩
    · have h4 : ¬ (F ≥ 0) := by rw [HF.out, h3]; decide
      have H3 := Lib.hid h3
      clear h3 hO
      go_wp2
      go_ret
      refine ⟨ret_bool ?_, hs⟩
      simp [mayB, H3.out]
      cases es[0]? <;> rfl
    · obtain ⟨sb, rfl, hsb, hc⟩ := hO.get Ent.cells_len he
      have hlt := lt_of_get he
      obtain rfl := hO.len
      have c4 : w2.cell? ⟨sb, i * 5 + 4, none⟩ = some (.int .u32 e.r) := hc 4 (by omega)
      have hi0 : (0 : Int) ≤ i := by omega
      have hi1 : (i : Int) < es.length := by omega
      obtain rfl : F = i := HF.out.trans h3
      have H3 := Lib.hid h3
      have HE := Lib.hid he
      clear h3 he hO hc
      go_wp2
      go_ret
      refine ⟨ret_bool ?_, hs⟩
      simp [mayB, H3.out, HE.out]
      rfl
end Go.Proofs.Ytbajlmaceapfpaa
