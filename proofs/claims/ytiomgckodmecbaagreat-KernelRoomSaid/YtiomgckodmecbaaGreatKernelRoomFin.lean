/- KernelRoom: of two kernels that play one script the one with less room answers ErrNodes just where the other one has more live nodes than there are places: the law returns true. No condition. -/
import Derived.Test.YtiomgckodmecbaaGreatJKernelRoom12
namespace Go.Proofs.YtiomgckodmecbaaGreat.lawKernelRoom
open Go.RowKit Go.Tk Go.ChangeShapes Go.WideShapes

theorem own : ownKnob Tryz.prog.godebug=none := by kernel_rfl
theorem laidOut : laidOutB Tryz.prog=true := by kernel_rfl

set_option maxRecDepth 100000 in
theorem lift (os : Os) (started : os.Started) (H : Type) (enc : TypeId×Value→H) :
    ReturnsInHanded {} Tryz.checked os 9 .any (Rows.kernelRoomSpec.pre6 enc Tryz.prog Tryz.f9 [] false) (Rows.kernelRoomSpec.post enc Tryz.prog Tryz.f9 false true false false) :=
  lifted (C := Tryz.checked) (n := 12) (sh := [(false,[.int .i64]),(false,[.int .i64]),(false,[.slice 32 NQ])]) started enc own laidOut (by kernel_rfl) Tryz.func9 (by kernel_rfl) rfl Tryz.underlying4 rfl
    (fun ds h => by match ds,h with | [_,_,_],_ => rfl) (by kernel_rfl)
    (ChangeSpec.witness6 (enc := enc) (C := Tryz.checked) false ⟨#[],#[.int .i64 0,.int .i64 0,.slice none 0 0],[]⟩ 8 (by kernel_rfl) (by kernel_rfl) (by kernel_rfl) (by kernel_rfl))
    (fun W args h => by
      obtain⟨v0,vs0,rfl,h0,r0⟩ := h;obtain⟨v1,vs1,rfl,h1,r1⟩ := r0;obtain⟨v2,vs2,rfl,h2,rfl⟩ := r1;obtain⟨n,rfl,_⟩ := h0;obtain⟨m,rfl,_⟩ := h1;obtain⟨A,len,cap,ops,rfl,hnc,hb,hs⟩ := UK h2
      exact(wY n m A len cap ops W hs (by have h9 := Nat.le_trans (Nat.mul_le_mul_right 32 hnc) hb;unfold reachBytes at h9;omega)).mono fun e W' ⟨he,hs⟩ => ⟨he,hs.AA (Nat.le_refl _) (fun _ _ h => h)⟩)

theorem proved : Rows.KernelRoomSaid :=
  OpenClaim.holds_of_wide 9 Tryz.f9 rfl rfl rfl rfl rfl rfl rfl ⟨rfl,rfl,rfl,rfl,rfl⟩ rfl rfl rfl rfl rfl (by kernel_rfl) Tryz.func9 (by kernel_rfl)
    (of_decide_eq_true (by kernel_rfl)) (by unfold Func.isWrapper;first | (rw[if_pos (by decide +kernel)];kernel_rfl) | (rw[if_neg (by decide +kernel)];exact⟨rfl,rfl⟩))
    (fun os started H enc _ => lift os started H enc)
end Go.Proofs.YtiomgckodmecbaaGreat.lawKernelRoom
