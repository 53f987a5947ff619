/- KernelNames: Exchange, Undo and Collect, and what is refused, leave every function its Ref and its values; what was exchanged can be undone: the law returns true, where what comes in is of bulk at most 1048576. -/
import Derived.Test.YtiomgckodmecbaaGreatJKernelNames12
namespace Go.Proofs.YtiomgckodmecbaaGreat.lawKernelNames
open Go.RowKit Go.Tk Go.ChangeShapes Go.WideShapes

theorem own : ownKnob Tryz.prog.godebug=none := by kernel_rfl
theorem laidOut : laidOutB Tryz.prog=true := by kernel_rfl
theorem acm : Tryz.prog.underlying 50=some (.slice 60) := Tryz.underlying50
theorem acn : Tryz.prog.underlying 74=some (.slice 123) := Tryz.underlying74

set_option maxRecDepth 100000 in
theorem lift (os : Os) (started : os.Started) (H : Type) (enc : TypeId×Value→H) (F : Stop.Interp) :
    ReturnsInHanded {} Tryz.checked os 8 .any (OpenSpec.pre6 enc Tryz.prog Tryz.f8 (Rows.OpenSpec.upto Rows.kernelNamesSpec) [] false) (((Rows.OpenSpec.upto Rows.kernelNamesSpec).at F).post enc Tryz.prog Tryz.f8 false true false false) :=
  Cw (C := Tryz.checked) (s := Rows.kernelNamesSpec) (k := Rows.uptoSmall) (n := 12) (sh := [(false,[.int .i64]),(false,[.int .i64]),(false,[.slice 32 Pb]),(false,[.slice 8 [.int .u64]])]) started enc 1048576 own laidOut (by kernel_rfl) Tryz.func8 (by kernel_rfl) rfl Tryz.underlying4 rfl
    (fun ds h => by match ds,h with | [_,_,_,_],_ => rfl) (by kernel_rfl) (fun _ h => K8 h)
    (OpenSpec.witness (enc := enc) (C := Tryz.checked) (s := Rows.OpenSpec.upto Rows.kernelNamesSpec) (k := Rows.uptoSmall) rfl false ⟨#[],#[.int .i64 0,.int .i64 0,.slice none 0 0,.slice none 0 0],[]⟩ 8 (by kernel_rfl) (by kernel_rfl) (by kernel_rfl)
      (x := ([.lit (.int .i64 0),.lit (.int .i64 0),.nil,.nil],[],[])) (by kernel_rfl) (by kernel_rfl) (by kernel_rfl))
    (fun W args h hN => by
      obtain⟨v0,vs0,rfl,h0,r0⟩ := h;obtain⟨v1,vs1,rfl,h1,r1⟩ := r0;obtain⟨v2,vs2,rfl,h2,r2⟩ := r1;obtain⟨v3,vs3,rfl,h3,rfl⟩ := r2;obtain⟨n,rfl,_⟩ := h0;obtain⟨m,rfl,_⟩ := h1;obtain⟨A,len,cap,ops,rfl,hnc,hb,hs⟩ := V3 h2;obtain⟨Ap,np,cp,pl,rfl,hnp,_,hbp,hsp⟩ := BX iW (by decide) Pg h3;have hn2 : len≤1048576 := hN 2 _ _ A len cap rfl acm rfl;have SH : np≤1048576 := hN 3 _ _ Ap np cp rfl acn rfl
      exact(uQ n m A len cap ops Ap np cp pl W hs (by omega) hsp (by omega)).mono fun e W' ⟨he,hs⟩ => ⟨he,hs.BZ (Nat.le_refl _) (fun _ _ h => h)⟩) F

theorem proved : Rows.KernelNamesUptoSaid :=
  OpenClaim.holds_of_cond 8 Tryz.f8 rfl rfl rfl rfl rfl rfl rfl ⟨rfl,rfl,rfl,rfl,rfl⟩ rfl rfl rfl rfl rfl (by kernel_rfl) Tryz.func8 (by kernel_rfl)
    (of_decide_eq_true (by kernel_rfl)) (by unfold Func.isWrapper;first | (rw[if_pos (by decide +kernel)];kernel_rfl) | (rw[if_neg (by decide +kernel)];exact⟨rfl,rfl⟩))
    (fun os started H enc _ F => lift os started H enc F)
end Go.Proofs.YtiomgckodmecbaaGreat.lawKernelNames
