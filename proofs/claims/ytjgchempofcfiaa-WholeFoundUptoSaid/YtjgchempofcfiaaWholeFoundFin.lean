/- WholeFound: what was added is found, what was removed is not, and a cache tells nothing wrong: the law returns true, where what comes in is of bulk at most 1048576. -/
import Derived.Test.YtjgchempofcfiaaJWholeFound3
namespace Go.Proofs.Ytjgchempofcfiaa.lawWholeFound
open Go.RowKit Go.Tk Go.ChangeShapes Go.WideShapes

theorem own : ownKnob Try.prog.godebug = none := by kernel_rfl
theorem laidOut : laidOutB Try.prog = true := by kernel_rfl

set_option maxRecDepth 100000 in
theorem lift (os : Os) (started : os.Started) (H : Type) (enc : TypeId × Value → H) (F : Stop.Interp) :
    ReturnsInHanded {} Try.checked os 3 .any (OpenSpec.pre6 enc Try.prog Try.f3 (Rows.OpenSpec.upto Rows.wholeFoundSpec) [] false) (((Rows.OpenSpec.upto Rows.wholeFoundSpec).at F).post enc Try.prog Try.f3 false true false false) :=
  lifted_upto (C := Try.checked) (s := Rows.wholeFoundSpec) (k := Rows.uptoSmall) (n := 12) (sh := [(false, [.slice 2 [.int .u16]])]) started enc 1048576 own laidOut (by kernel_rfl) Try.func3 (by kernel_rfl) rfl Try.underlying4 rfl
    (fun ds h => by match ds, h with | [_], _ => rfl) (by kernel_rfl) (fun _ h => upto_len h)
    (OpenSpec.witness (enc := enc) (C := Try.checked) (s := Rows.OpenSpec.upto Rows.wholeFoundSpec) (k := Rows.uptoSmall) rfl false ⟨#[], #[.slice none 0 0], []⟩ 8 (by kernel_rfl) (by kernel_rfl) (by kernel_rfl)
      (x := ([.nil], [], [])) (by kernel_rfl) (by kernel_rfl) (by kernel_rfl))
    (fun W args h hN => by
      obtain ⟨v0, vs0, rfl, h0, rfl⟩ := h
      obtain ⟨A, n, c, xs, rfl, hnc, _, hb, hs⟩ := slice_ok (fun x : {x : Nat // x < 65536} => u16c x.1) (by decide) u16_of h0
      have hn : n ≤ 1048576 := hN 0 _ _ A n c rfl Try.underlying22 rfl
      exact (wfound_any A n c _ W hs.unsub.1 hs.unsub.2 hn).mono fun e W' ⟨he, hs⟩ => ⟨he, hs.to_below (Nat.le_refl _) (fun _ _ h => h)⟩) F

theorem proved : Rows.WholeFoundUptoSaid :=
  OpenClaim.holds_of_cond 3 Try.f3 rfl rfl rfl rfl rfl rfl rfl ⟨rfl, rfl, rfl, rfl, rfl⟩ rfl rfl rfl rfl rfl (by kernel_rfl) Try.func3 (by kernel_rfl)
    (of_decide_eq_true (by kernel_rfl)) (by unfold Func.isWrapper; first | (rw [if_pos (by decide +kernel)]; kernel_rfl) | (rw [if_neg (by decide +kernel)]; exact ⟨rfl, rfl⟩))
    (fun os started H enc _ F => lift os started H enc F)
end Go.Proofs.Ytjgchempofcfiaa.lawWholeFound
