/- math/bits.OnesCount64: walked. -/
import Derived.Test.YtlggmoghgoeiiaaPop
import Derived.Test.YtlggmoghgoeiiaaTrCol
namespace Go.Proofs.Ytlggmoghgoeiiaa
open Go.RowKit Go.Tk

set_option maxRecDepth 100000 in
set_option maxHeartbeats 2000000 in
theorem ones_any (x : Nat) (w : World) (hx : x < 18446744073709551616) : Calls Try.prog 58 #[.int .u64 x] w fun e w' => e = .returned (.int .i64 (popc x : Nat)) ∧ w = w' := by
  obtain ⟨x1, e1⟩ : ∃ v, v = ((x / 2) &&& 6148914691236517205) + (x &&& 6148914691236517205) := ⟨_, rfl⟩
  obtain ⟨x2, e2⟩ : ∃ v, v = ((x1 / 4) &&& 3689348814741910323) + (x1 &&& 3689348814741910323) := ⟨_, rfl⟩
  obtain ⟨x3, e3⟩ : ∃ v, v = (x2 / 16 + x2) &&& 1085102592571150095 := ⟨_, rfl⟩
  obtain ⟨x4, e4⟩ : ∃ v, v = x3 + x3 / 256 := ⟨_, rfl⟩
  obtain ⟨x5, e5⟩ : ∃ v, v = x4 + x4 / 65536 := ⟨_, rfl⟩
  obtain ⟨x6, e6⟩ : ∃ v, v = x5 + x5 / 4294967296 := ⟨_, rfl⟩
  obtain ⟨l1, l2, l23, l3, l4, l5, l6, hp⟩ := popc_steps x x1 x2 x3 x4 x5 x6 hx e1 e2 e3 e4 e5 e6
  have a1 := u64_and_nat (x / 2) 6148914691236517205 (by omega) (by omega)
  have a2 := u64_and_nat x 6148914691236517205 (by omega) (by omega)
  have b1 := u64_and_nat (x1 / 4) 3689348814741910323 (by omega) (by omega)
  have b2 := u64_and_nat x1 3689348814741910323 (by omega) (by omega)
  have c1 := u64_and_nat (x2 / 16 + x2) 1085102592571150095 (by omega) (by omega)
  rw [← e3] at c1
  have d1 := i64_and_nat x6 127 l6 (by omega)
  rw [show x6 &&& 127 = x6 % 128 from Nat.and_two_pow_sub_one_eq_mod x6 7, hp] at d1
  generalize (x / 2) &&& 6148914691236517205 = v1 at *
  generalize x &&& 6148914691236517205 = v2 at *
  generalize (x1 / 4) &&& 3689348814741910323 = v3 at *
  generalize x1 &&& 3689348814741910323 = v4 at *
  have w1 : IntKind.u64.wrap ((v1 : Int) + v2) = (x1 : Int) := by rw [IntWalk.u64_in _ (by omega)]; omega
  have w2 : IntKind.u64.wrap ((v3 : Int) + v4) = (x2 : Int) := by rw [IntWalk.u64_in _ (by omega)]; omega
  have w3 : IntKind.u64.wrap ((x2 : Int) / 16 + x2) = ((x2 / 16 + x2 : Nat) : Int) := by rw [IntWalk.u64_in _ (by omega)]; omega
  have w4 : IntKind.u64.wrap ((x3 : Int) + (x3 : Int) / 256) = (x4 : Int) := by rw [IntWalk.u64_in _ (by omega)]; omega
  have w5 : IntKind.u64.wrap ((x4 : Int) + (x4 : Int) / 65536) = (x5 : Int) := by rw [IntWalk.u64_in _ (by omega)]; omega
  have w6 : IntKind.u64.wrap ((x5 : Int) + (x5 : Int) / 4294967296) = (x6 : Int) := by rw [IntWalk.u64_in _ (by omega)]; omega
  have w7 : IntKind.i64.wrap (x6 : Int) = (x6 : Int) := IntWalk.i64_in _ (by omega)
  have i1 : ((x / 2 : Nat) : Int) = (x : Int) / 2 := by omega
  have i2 : ((x1 / 4 : Nat) : Int) = (x1 : Int) / 4 := by omega
  have i3 : ((x2 / 16 + x2 : Nat) : Int) = (x2 : Int) / 16 + x2 := by omega
  rw [i1] at a1
  rw [i2] at b1
  rw [i3] at c1 w3
  have a1' : bits .and .u64 ((x : Int) / 2) 6148914691236517205 = (v1 : Int) := a1
  have a2' : bits .and .u64 (x : Int) 6148914691236517205 = (v2 : Int) := a2
  have b1' : bits .and .u64 ((x1 : Int) / 4) 3689348814741910323 = (v3 : Int) := b1
  have b2' : bits .and .u64 (x1 : Int) 3689348814741910323 = (v4 : Int) := b2
  have c1' : bits .and .u64 ((x2 : Int) / 16 + x2) 1085102592571150095 = (x3 : Int) := c1
  have d1' : bits .and .i64 (x6 : Int) 127 = (popc x : Int) := d1
  clear a1 a2 b1 b2 c1 d1
  clear i1 i2 i3 e1 e2 e3 e4 e5 e6 hp
  go_enter Try.func58, Try.ntmps58
  go_wp2
  go_ret
  exact ⟨rfl, rfl⟩
end Go.Proofs.Ytlggmoghgoeiiaa
