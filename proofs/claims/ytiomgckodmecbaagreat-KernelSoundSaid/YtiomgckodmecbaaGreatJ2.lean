/- Contracts and plain laws, put together in one file. No condition. -/
import Derived.Test.YtiomgckodmecbaaGreatJ1
import Derived.Shelf.SlBodiesM
import Derived.Shelf.SlGeneric
import Derived.Sort.WalkD1
import Derived.Shelf.SlIterI.Collect
import Derived.Shelf.SlIter.Collect
import Derived.RangeFuncGives
import Derived.Maps.AppendAt
import Derived.Shelf.Abstract
import Derived.Shelf.SlIter.Sorted
import Derived.RangeFuncBound
import Derived.Sort.OwnSorted
import Derived.Sort.Walk0
import Derived.OwnWalkIn
import Derived.TacticsInMore
import Derived.RegionIn
import Derived.LoopNIn
import Derived.LoopIn
import Derived.Sort.CutIn
import Derived.Sort.QuietIn
import Derived.Sort.AtCallIn
import Derived.Shelf.RegionOpen
import Derived.Shelf.AbstractIn
import Derived.Sort.WalkA
import Derived.Sort.BigQuietIn
import Derived.Shelf.SortM.WalkA6In
import Derived.Sort.WalkA6
import Derived.Ground.So_math_bits_Len64
import Derived.Deep.Light
import Derived.Ground.So_math_bits_Len
import Derived.Sort.Walk7a
import Derived.Sort.Walk7
import Derived.Sort.WalkD2
import Derived.Sort.Walk11
import Derived.Shelf.SortM.PlainT
import Derived.Sort.WalkC
import Derived.Sort.WalkC4
import Derived.Sort.WalkB12

set_option maxRecDepth 100000
set_option maxHeartbeats 32000000
namespace Go.Proofs.YtiomgckodmecbaaGreat
open Go.Shelf
structure SlW32.n5 (P:Program) (ρ:Ren):Prop where
 mixed:P.follows .mixedOrders=true
 f5:Bears P (ρ.f 5) (SlBodyM.n5 ρ)
 f7:Bears P (ρ.f 7) (SlBodyM.n7 ρ)
 f8:P.funcs[ρ.f 8]?=some (SlBodyM.n8 ρ)
 f10:Bears P (ρ.f 10) (SlBodyM.n10 ρ)
 f11:Bears P (ρ.f 11) (SlBodyM.n11 ρ)
 f12:Bears P (ρ.f 12) (SlBodyM.n12 ρ)
 f13:Bears P (ρ.f 13) (SlBodyM.n13 ρ)
 f14:Bears P (ρ.f 14) (SlBodyM.n14 ρ)
 f15:Bears P (ρ.f 15) (SlBodyM.n15 ρ)
 f16:Bears P (ρ.f 16) (SlBodyM.n16 ρ)
 f17:Bears P (ρ.f 17) (SlBodyM.n17 ρ)
 f18:Bears P (ρ.f 18) (SlBodyM.n18 ρ)
 f19:P.funcs[ρ.f 19]?=some (SlBodyM.n19 ρ)
 f20:P.funcs[ρ.f 20]?=some (SlBodyM.n20 ρ)
 f30:Bears P (ρ.f 30) (SlBodyM.n30 ρ)
 f31:P.funcs[ρ.f 31]?=some (SlBodyM.n31 ρ)
 f32:P.funcs[ρ.f 32]?=some (SlBodyM.n32 ρ)
 f33:Bears P (ρ.f 33) (SlBodyM.n33 ρ)
 f34:Bears P (ρ.f 34) (SlBodyM.n34 ρ)
 f35:Bears P (ρ.f 35) (SlBodyM.n35 ρ)
 f40:Bears P (ρ.f 40) (SlBodyM.n40 ρ)
 t0:P.underlying (ρ.t 0)=some (TypeDesc.tuple #[])
 a0:∀ w,(isAgg (ρ.t 0)).run P w=.ok false w
 z0:∀ w,(Go.sizeOf (ρ.t 0)).run P w=.ok 1 w
 v0:∀ w,(zeroValue (ρ.t 0)).run P w=.ok (Value.tuple #[]) w
 t3:P.underlying (ρ.t 3)=some (TypeDesc.int IntKind.i64)
 a3:∀ w,(isAgg (ρ.t 3)).run P w=.ok false w
 z3:∀ w,(Go.sizeOf (ρ.t 3)).run P w=.ok 1 w
 v3:∀ w,(zeroValue (ρ.t 3)).run P w=.ok (Value.int IntKind.i64 0) w
 t4:P.underlying (ρ.t 4)=some (TypeDesc.bool)
 a4:∀ w,(isAgg (ρ.t 4)).run P w=.ok false w
 z4:∀ w,(Go.sizeOf (ρ.t 4)).run P w=.ok 1 w
 v4:∀ w,(zeroValue (ρ.t 4)).run P w=.ok (Value.bool false) w
 t5:P.underlying (ρ.t 5)=some (TypeDesc.int IntKind.u8)
 a5:∀ w,(isAgg (ρ.t 5)).run P w=.ok false w
 z5:∀ w,(Go.sizeOf (ρ.t 5)).run P w=.ok 1 w
 v5:∀ w,(zeroValue (ρ.t 5)).run P w=.ok (Value.int IntKind.u8 0) w
 t9:P.underlying (ρ.t 9)=some (TypeDesc.string)
 a9:∀ w,(isAgg (ρ.t 9)).run P w=.ok false w
 z9:∀ w,(Go.sizeOf (ρ.t 9)).run P w=.ok 1 w
 v9:∀ w,(zeroValue (ρ.t 9)).run P w=.ok (Value.string { data:=#[] }) w
 t22:P.underlying (ρ.t 22)=some (TypeDesc.slice (ρ.t 25))
 a22:∀ w,(isAgg (ρ.t 22)).run P w=.ok false w
 z22:∀ w,(Go.sizeOf (ρ.t 22)).run P w=.ok 1 w
 v22:∀ w,(zeroValue (ρ.t 22)).run P w=.ok (Value.slice none 0 0) w
 t23:P.underlying (ρ.t 23)=some (TypeDesc.slice (ρ.t 25))
 a23:∀ w,(isAgg (ρ.t 23)).run P w=.ok false w
 z23:∀ w,(Go.sizeOf (ρ.t 23)).run P w=.ok 1 w
 v23:∀ w,(zeroValue (ρ.t 23)).run P w=.ok (Value.slice none 0 0) w
 t25:P.underlying (ρ.t 25)=some (TypeDesc.int IntKind.u32)
 a25:∀ w,(isAgg (ρ.t 25)).run P w=.ok false w
 z25:∀ w,(Go.sizeOf (ρ.t 25)).run P w=.ok 1 w
 v25:∀ w,(zeroValue (ρ.t 25)).run P w=.ok (Value.int IntKind.u32 0) w
 t32:P.underlying (ρ.t 32)=some (TypeDesc.int IntKind.u64)
 a32:∀ w,(isAgg (ρ.t 32)).run P w=.ok false w
 z32:∀ w,(Go.sizeOf (ρ.t 32)).run P w=.ok 1 w
 v32:∀ w,(zeroValue (ρ.t 32)).run P w=.ok (Value.int IntKind.u64 0) w
 t35:P.underlying (ρ.t 35)=some (TypeDesc.int IntKind.i64)
 a35:∀ w,(isAgg (ρ.t 35)).run P w=.ok false w
 z35:∀ w,(Go.sizeOf (ρ.t 35)).run P w=.ok 1 w
 v35:∀ w,(zeroValue (ρ.t 35)).run P w=.ok (Value.int IntKind.i64 0) w
 t36:P.underlying (ρ.t 36)=some (TypeDesc.tuple #[ρ.t 3,ρ.t 35])
 a36:∀ w,(isAgg (ρ.t 36)).run P w=.ok false w
 z36:∀ w,(Go.sizeOf (ρ.t 36)).run P w=.ok 1 w
 v36:∀ w,(zeroValue (ρ.t 36)).run P w=.ok (Value.tuple #[Value.int IntKind.i64 0,Value.int IntKind.i64 0]) w
 t41:P.underlying (ρ.t 41)=some (TypeDesc.tuple #[ρ.t 3,ρ.t 4])
 a41:∀ w,(isAgg (ρ.t 41)).run P w=.ok false w
 z41:∀ w,(Go.sizeOf (ρ.t 41)).run P w=.ok 1 w
 v41:∀ w,(zeroValue (ρ.t 41)).run P w=.ok (Value.tuple #[Value.int IntKind.i64 0,Value.bool false]) w
 t44:P.underlying (ρ.t 44)=some (TypeDesc.int IntKind.u32)
 a44:∀ w,(isAgg (ρ.t 44)).run P w=.ok false w
 z44:∀ w,(Go.sizeOf (ρ.t 44)).run P w=.ok 1 w
 v44:∀ w,(zeroValue (ρ.t 44)).run P w=.ok (Value.int IntKind.u32 0) w
 t46:P.underlying (ρ.t 46)=some (TypeDesc.int IntKind.u64)
 a46:∀ w,(isAgg (ρ.t 46)).run P w=.ok false w
 z46:∀ w,(Go.sizeOf (ρ.t 46)).run P w=.ok 1 w
 v46:∀ w,(zeroValue (ρ.t 46)).run P w=.ok (Value.int IntKind.u64 0) w
 t53:P.underlying (ρ.t 53)=some (TypeDesc.int IntKind.u64)
 a53:∀ w,(isAgg (ρ.t 53)).run P w=.ok false w
 z53:∀ w,(Go.sizeOf (ρ.t 53)).run P w=.ok 1 w
 v53:∀ w,(zeroValue (ρ.t 53)).run P w=.ok (Value.int IntKind.u64 0) w
 t57:P.underlying (ρ.t 57)=some (TypeDesc.pointer (ρ.t 3))
 a57:∀ w,(isAgg (ρ.t 57)).run P w=.ok false w
 z57:∀ w,(Go.sizeOf (ρ.t 57)).run P w=.ok 1 w
 v57:∀ w,(zeroValue (ρ.t 57)).run P w=.ok (Value.pointer none) w
 t63:P.underlying (ρ.t 63)=some (TypeDesc.pointer (ρ.t 53))
 a63:∀ w,(isAgg (ρ.t 63)).run P w=.ok false w
 z63:∀ w,(Go.sizeOf (ρ.t 63)).run P w=.ok 1 w
 v63:∀ w,(zeroValue (ρ.t 63)).run P w=.ok (Value.pointer none) w
 t64:P.underlying (ρ.t 64)=some (TypeDesc.tuple #[ρ.t 3,ρ.t 3])
 a64:∀ w,(isAgg (ρ.t 64)).run P w=.ok false w
 z64:∀ w,(Go.sizeOf (ρ.t 64)).run P w=.ok 1 w
 v64:∀ w,(zeroValue (ρ.t 64)).run P w=.ok (Value.tuple #[Value.int IntKind.i64 0,Value.int IntKind.i64 0]) w
structure SlW32.n7 (P:Program) (ρ:Ren):Prop where
 mixed:P.follows .mixedOrders=true
 f7:Bears P (ρ.f 7) (SlBodyM.n7 ρ)
 f8:P.funcs[ρ.f 8]?=some (SlBodyM.n8 ρ)
 f10:Bears P (ρ.f 10) (SlBodyM.n10 ρ)
 f11:Bears P (ρ.f 11) (SlBodyM.n11 ρ)
 f12:Bears P (ρ.f 12) (SlBodyM.n12 ρ)
 f13:Bears P (ρ.f 13) (SlBodyM.n13 ρ)
 f14:Bears P (ρ.f 14) (SlBodyM.n14 ρ)
 f15:Bears P (ρ.f 15) (SlBodyM.n15 ρ)
 f16:Bears P (ρ.f 16) (SlBodyM.n16 ρ)
 f17:Bears P (ρ.f 17) (SlBodyM.n17 ρ)
 f18:Bears P (ρ.f 18) (SlBodyM.n18 ρ)
 f19:P.funcs[ρ.f 19]?=some (SlBodyM.n19 ρ)
 f20:P.funcs[ρ.f 20]?=some (SlBodyM.n20 ρ)
 f30:Bears P (ρ.f 30) (SlBodyM.n30 ρ)
 f31:P.funcs[ρ.f 31]?=some (SlBodyM.n31 ρ)
 f32:P.funcs[ρ.f 32]?=some (SlBodyM.n32 ρ)
 f33:Bears P (ρ.f 33) (SlBodyM.n33 ρ)
 f34:Bears P (ρ.f 34) (SlBodyM.n34 ρ)
 f35:Bears P (ρ.f 35) (SlBodyM.n35 ρ)
 f40:Bears P (ρ.f 40) (SlBodyM.n40 ρ)
 t0:P.underlying (ρ.t 0)=some (TypeDesc.tuple #[])
 a0:∀ w,(isAgg (ρ.t 0)).run P w=.ok false w
 z0:∀ w,(Go.sizeOf (ρ.t 0)).run P w=.ok 1 w
 v0:∀ w,(zeroValue (ρ.t 0)).run P w=.ok (Value.tuple #[]) w
 t3:P.underlying (ρ.t 3)=some (TypeDesc.int IntKind.i64)
 a3:∀ w,(isAgg (ρ.t 3)).run P w=.ok false w
 z3:∀ w,(Go.sizeOf (ρ.t 3)).run P w=.ok 1 w
 v3:∀ w,(zeroValue (ρ.t 3)).run P w=.ok (Value.int IntKind.i64 0) w
 t4:P.underlying (ρ.t 4)=some (TypeDesc.bool)
 a4:∀ w,(isAgg (ρ.t 4)).run P w=.ok false w
 z4:∀ w,(Go.sizeOf (ρ.t 4)).run P w=.ok 1 w
 v4:∀ w,(zeroValue (ρ.t 4)).run P w=.ok (Value.bool false) w
 t5:P.underlying (ρ.t 5)=some (TypeDesc.int IntKind.u8)
 a5:∀ w,(isAgg (ρ.t 5)).run P w=.ok false w
 z5:∀ w,(Go.sizeOf (ρ.t 5)).run P w=.ok 1 w
 v5:∀ w,(zeroValue (ρ.t 5)).run P w=.ok (Value.int IntKind.u8 0) w
 t9:P.underlying (ρ.t 9)=some (TypeDesc.string)
 a9:∀ w,(isAgg (ρ.t 9)).run P w=.ok false w
 z9:∀ w,(Go.sizeOf (ρ.t 9)).run P w=.ok 1 w
 v9:∀ w,(zeroValue (ρ.t 9)).run P w=.ok (Value.string { data:=#[] }) w
 t22:P.underlying (ρ.t 22)=some (TypeDesc.slice (ρ.t 25))
 a22:∀ w,(isAgg (ρ.t 22)).run P w=.ok false w
 z22:∀ w,(Go.sizeOf (ρ.t 22)).run P w=.ok 1 w
 v22:∀ w,(zeroValue (ρ.t 22)).run P w=.ok (Value.slice none 0 0) w
 t25:P.underlying (ρ.t 25)=some (TypeDesc.int IntKind.u32)
 a25:∀ w,(isAgg (ρ.t 25)).run P w=.ok false w
 z25:∀ w,(Go.sizeOf (ρ.t 25)).run P w=.ok 1 w
 v25:∀ w,(zeroValue (ρ.t 25)).run P w=.ok (Value.int IntKind.u32 0) w
 t32:P.underlying (ρ.t 32)=some (TypeDesc.int IntKind.u64)
 a32:∀ w,(isAgg (ρ.t 32)).run P w=.ok false w
 z32:∀ w,(Go.sizeOf (ρ.t 32)).run P w=.ok 1 w
 v32:∀ w,(zeroValue (ρ.t 32)).run P w=.ok (Value.int IntKind.u64 0) w
 t35:P.underlying (ρ.t 35)=some (TypeDesc.int IntKind.i64)
 a35:∀ w,(isAgg (ρ.t 35)).run P w=.ok false w
 z35:∀ w,(Go.sizeOf (ρ.t 35)).run P w=.ok 1 w
 v35:∀ w,(zeroValue (ρ.t 35)).run P w=.ok (Value.int IntKind.i64 0) w
 t36:P.underlying (ρ.t 36)=some (TypeDesc.tuple #[ρ.t 3,ρ.t 35])
 a36:∀ w,(isAgg (ρ.t 36)).run P w=.ok false w
 z36:∀ w,(Go.sizeOf (ρ.t 36)).run P w=.ok 1 w
 v36:∀ w,(zeroValue (ρ.t 36)).run P w=.ok (Value.tuple #[Value.int IntKind.i64 0,Value.int IntKind.i64 0]) w
 t41:P.underlying (ρ.t 41)=some (TypeDesc.tuple #[ρ.t 3,ρ.t 4])
 a41:∀ w,(isAgg (ρ.t 41)).run P w=.ok false w
 z41:∀ w,(Go.sizeOf (ρ.t 41)).run P w=.ok 1 w
 v41:∀ w,(zeroValue (ρ.t 41)).run P w=.ok (Value.tuple #[Value.int IntKind.i64 0,Value.bool false]) w
 t44:P.underlying (ρ.t 44)=some (TypeDesc.int IntKind.u32)
 a44:∀ w,(isAgg (ρ.t 44)).run P w=.ok false w
 z44:∀ w,(Go.sizeOf (ρ.t 44)).run P w=.ok 1 w
 v44:∀ w,(zeroValue (ρ.t 44)).run P w=.ok (Value.int IntKind.u32 0) w
 t46:P.underlying (ρ.t 46)=some (TypeDesc.int IntKind.u64)
 a46:∀ w,(isAgg (ρ.t 46)).run P w=.ok false w
 z46:∀ w,(Go.sizeOf (ρ.t 46)).run P w=.ok 1 w
 v46:∀ w,(zeroValue (ρ.t 46)).run P w=.ok (Value.int IntKind.u64 0) w
 t53:P.underlying (ρ.t 53)=some (TypeDesc.int IntKind.u64)
 a53:∀ w,(isAgg (ρ.t 53)).run P w=.ok false w
 z53:∀ w,(Go.sizeOf (ρ.t 53)).run P w=.ok 1 w
 v53:∀ w,(zeroValue (ρ.t 53)).run P w=.ok (Value.int IntKind.u64 0) w
 t57:P.underlying (ρ.t 57)=some (TypeDesc.pointer (ρ.t 3))
 a57:∀ w,(isAgg (ρ.t 57)).run P w=.ok false w
 z57:∀ w,(Go.sizeOf (ρ.t 57)).run P w=.ok 1 w
 v57:∀ w,(zeroValue (ρ.t 57)).run P w=.ok (Value.pointer none) w
 t63:P.underlying (ρ.t 63)=some (TypeDesc.pointer (ρ.t 53))
 a63:∀ w,(isAgg (ρ.t 63)).run P w=.ok false w
 z63:∀ w,(Go.sizeOf (ρ.t 63)).run P w=.ok 1 w
 v63:∀ w,(zeroValue (ρ.t 63)).run P w=.ok (Value.pointer none) w
 t64:P.underlying (ρ.t 64)=some (TypeDesc.tuple #[ρ.t 3,ρ.t 3])
 a64:∀ w,(isAgg (ρ.t 64)).run P w=.ok false w
 z64:∀ w,(Go.sizeOf (ρ.t 64)).run P w=.ok 1 w
 v64:∀ w,(zeroValue (ρ.t 64)).run P w=.ok (Value.tuple #[Value.int IntKind.i64 0,Value.int IntKind.i64 0]) w
structure SlW32.n8 (P:Program) (ρ:Ren):Prop where
 mixed:P.follows .mixedOrders=true
 f8:P.funcs[ρ.f 8]?=some (SlBodyM.n8 ρ)
 f19:P.funcs[ρ.f 19]?=some (SlBodyM.n19 ρ)
 f20:P.funcs[ρ.f 20]?=some (SlBodyM.n20 ρ)
 t3:P.underlying (ρ.t 3)=some (TypeDesc.int IntKind.i64)
 a3:∀ w,(isAgg (ρ.t 3)).run P w=.ok false w
 z3:∀ w,(Go.sizeOf (ρ.t 3)).run P w=.ok 1 w
 v3:∀ w,(zeroValue (ρ.t 3)).run P w=.ok (Value.int IntKind.i64 0) w
 t4:P.underlying (ρ.t 4)=some (TypeDesc.bool)
 a4:∀ w,(isAgg (ρ.t 4)).run P w=.ok false w
 z4:∀ w,(Go.sizeOf (ρ.t 4)).run P w=.ok 1 w
 v4:∀ w,(zeroValue (ρ.t 4)).run P w=.ok (Value.bool false) w
 t5:P.underlying (ρ.t 5)=some (TypeDesc.int IntKind.u8)
 a5:∀ w,(isAgg (ρ.t 5)).run P w=.ok false w
 z5:∀ w,(Go.sizeOf (ρ.t 5)).run P w=.ok 1 w
 v5:∀ w,(zeroValue (ρ.t 5)).run P w=.ok (Value.int IntKind.u8 0) w
 t9:P.underlying (ρ.t 9)=some (TypeDesc.string)
 a9:∀ w,(isAgg (ρ.t 9)).run P w=.ok false w
 z9:∀ w,(Go.sizeOf (ρ.t 9)).run P w=.ok 1 w
 v9:∀ w,(zeroValue (ρ.t 9)).run P w=.ok (Value.string { data:=#[] }) w
 t32:P.underlying (ρ.t 32)=some (TypeDesc.int IntKind.u64)
 a32:∀ w,(isAgg (ρ.t 32)).run P w=.ok false w
 z32:∀ w,(Go.sizeOf (ρ.t 32)).run P w=.ok 1 w
 v32:∀ w,(zeroValue (ρ.t 32)).run P w=.ok (Value.int IntKind.u64 0) w
 t44:P.underlying (ρ.t 44)=some (TypeDesc.int IntKind.u32)
 a44:∀ w,(isAgg (ρ.t 44)).run P w=.ok false w
 z44:∀ w,(Go.sizeOf (ρ.t 44)).run P w=.ok 1 w
 v44:∀ w,(zeroValue (ρ.t 44)).run P w=.ok (Value.int IntKind.u32 0) w
 t46:P.underlying (ρ.t 46)=some (TypeDesc.int IntKind.u64)
 a46:∀ w,(isAgg (ρ.t 46)).run P w=.ok false w
 z46:∀ w,(Go.sizeOf (ρ.t 46)).run P w=.ok 1 w
 v46:∀ w,(zeroValue (ρ.t 46)).run P w=.ok (Value.int IntKind.u64 0) w
structure SlW32.n10 (P:Program) (ρ:Ren):Prop where
 mixed:P.follows .mixedOrders=true
 f10:Bears P (ρ.f 10) (SlBodyM.n10 ρ)
 f16:Bears P (ρ.f 16) (SlBodyM.n16 ρ)
 f35:Bears P (ρ.f 35) (SlBodyM.n35 ρ)
 t0:P.underlying (ρ.t 0)=some (TypeDesc.tuple #[])
 a0:∀ w,(isAgg (ρ.t 0)).run P w=.ok false w
 z0:∀ w,(Go.sizeOf (ρ.t 0)).run P w=.ok 1 w
 v0:∀ w,(zeroValue (ρ.t 0)).run P w=.ok (Value.tuple #[]) w
 t3:P.underlying (ρ.t 3)=some (TypeDesc.int IntKind.i64)
 a3:∀ w,(isAgg (ρ.t 3)).run P w=.ok false w
 z3:∀ w,(Go.sizeOf (ρ.t 3)).run P w=.ok 1 w
 v3:∀ w,(zeroValue (ρ.t 3)).run P w=.ok (Value.int IntKind.i64 0) w
 t4:P.underlying (ρ.t 4)=some (TypeDesc.bool)
 a4:∀ w,(isAgg (ρ.t 4)).run P w=.ok false w
 z4:∀ w,(Go.sizeOf (ρ.t 4)).run P w=.ok 1 w
 v4:∀ w,(zeroValue (ρ.t 4)).run P w=.ok (Value.bool false) w
 t22:P.underlying (ρ.t 22)=some (TypeDesc.slice (ρ.t 25))
 a22:∀ w,(isAgg (ρ.t 22)).run P w=.ok false w
 z22:∀ w,(Go.sizeOf (ρ.t 22)).run P w=.ok 1 w
 v22:∀ w,(zeroValue (ρ.t 22)).run P w=.ok (Value.slice none 0 0) w
 t25:P.underlying (ρ.t 25)=some (TypeDesc.int IntKind.u32)
 a25:∀ w,(isAgg (ρ.t 25)).run P w=.ok false w
 z25:∀ w,(Go.sizeOf (ρ.t 25)).run P w=.ok 1 w
 v25:∀ w,(zeroValue (ρ.t 25)).run P w=.ok (Value.int IntKind.u32 0) w
structure SlW32.n11 (P:Program) (ρ:Ren):Prop where
 mixed:P.follows .mixedOrders=true
 f11:Bears P (ρ.f 11) (SlBodyM.n11 ρ)
 f16:Bears P (ρ.f 16) (SlBodyM.n16 ρ)
 f30:Bears P (ρ.f 30) (SlBodyM.n30 ρ)
 f35:Bears P (ρ.f 35) (SlBodyM.n35 ρ)
 t0:P.underlying (ρ.t 0)=some (TypeDesc.tuple #[])
 a0:∀ w,(isAgg (ρ.t 0)).run P w=.ok false w
 z0:∀ w,(Go.sizeOf (ρ.t 0)).run P w=.ok 1 w
 v0:∀ w,(zeroValue (ρ.t 0)).run P w=.ok (Value.tuple #[]) w
 t3:P.underlying (ρ.t 3)=some (TypeDesc.int IntKind.i64)
 a3:∀ w,(isAgg (ρ.t 3)).run P w=.ok false w
 z3:∀ w,(Go.sizeOf (ρ.t 3)).run P w=.ok 1 w
 v3:∀ w,(zeroValue (ρ.t 3)).run P w=.ok (Value.int IntKind.i64 0) w
 t4:P.underlying (ρ.t 4)=some (TypeDesc.bool)
 a4:∀ w,(isAgg (ρ.t 4)).run P w=.ok false w
 z4:∀ w,(Go.sizeOf (ρ.t 4)).run P w=.ok 1 w
 v4:∀ w,(zeroValue (ρ.t 4)).run P w=.ok (Value.bool false) w
 t22:P.underlying (ρ.t 22)=some (TypeDesc.slice (ρ.t 25))
 a22:∀ w,(isAgg (ρ.t 22)).run P w=.ok false w
 z22:∀ w,(Go.sizeOf (ρ.t 22)).run P w=.ok 1 w
 v22:∀ w,(zeroValue (ρ.t 22)).run P w=.ok (Value.slice none 0 0) w
 t25:P.underlying (ρ.t 25)=some (TypeDesc.int IntKind.u32)
 a25:∀ w,(isAgg (ρ.t 25)).run P w=.ok false w
 z25:∀ w,(Go.sizeOf (ρ.t 25)).run P w=.ok 1 w
 v25:∀ w,(zeroValue (ρ.t 25)).run P w=.ok (Value.int IntKind.u32 0) w
structure SlW32.n12 (P:Program) (ρ:Ren):Prop where
 mixed:P.follows .mixedOrders=true
 f8:P.funcs[ρ.f 8]?=some (SlBodyM.n8 ρ)
 f12:Bears P (ρ.f 12) (SlBodyM.n12 ρ)
 f19:P.funcs[ρ.f 19]?=some (SlBodyM.n19 ρ)
 f20:P.funcs[ρ.f 20]?=some (SlBodyM.n20 ρ)
 f31:P.funcs[ρ.f 31]?=some (SlBodyM.n31 ρ)
 f32:P.funcs[ρ.f 32]?=some (SlBodyM.n32 ρ)
 t0:P.underlying (ρ.t 0)=some (TypeDesc.tuple #[])
 a0:∀ w,(isAgg (ρ.t 0)).run P w=.ok false w
 z0:∀ w,(Go.sizeOf (ρ.t 0)).run P w=.ok 1 w
 v0:∀ w,(zeroValue (ρ.t 0)).run P w=.ok (Value.tuple #[]) w
 t3:P.underlying (ρ.t 3)=some (TypeDesc.int IntKind.i64)
 a3:∀ w,(isAgg (ρ.t 3)).run P w=.ok false w
 z3:∀ w,(Go.sizeOf (ρ.t 3)).run P w=.ok 1 w
 v3:∀ w,(zeroValue (ρ.t 3)).run P w=.ok (Value.int IntKind.i64 0) w
 t4:P.underlying (ρ.t 4)=some (TypeDesc.bool)
 a4:∀ w,(isAgg (ρ.t 4)).run P w=.ok false w
 z4:∀ w,(Go.sizeOf (ρ.t 4)).run P w=.ok 1 w
 v4:∀ w,(zeroValue (ρ.t 4)).run P w=.ok (Value.bool false) w
 t5:P.underlying (ρ.t 5)=some (TypeDesc.int IntKind.u8)
 a5:∀ w,(isAgg (ρ.t 5)).run P w=.ok false w
 z5:∀ w,(Go.sizeOf (ρ.t 5)).run P w=.ok 1 w
 v5:∀ w,(zeroValue (ρ.t 5)).run P w=.ok (Value.int IntKind.u8 0) w
 t9:P.underlying (ρ.t 9)=some (TypeDesc.string)
 a9:∀ w,(isAgg (ρ.t 9)).run P w=.ok false w
 z9:∀ w,(Go.sizeOf (ρ.t 9)).run P w=.ok 1 w
 v9:∀ w,(zeroValue (ρ.t 9)).run P w=.ok (Value.string { data:=#[] }) w
 t22:P.underlying (ρ.t 22)=some (TypeDesc.slice (ρ.t 25))
 a22:∀ w,(isAgg (ρ.t 22)).run P w=.ok false w
 z22:∀ w,(Go.sizeOf (ρ.t 22)).run P w=.ok 1 w
 v22:∀ w,(zeroValue (ρ.t 22)).run P w=.ok (Value.slice none 0 0) w
 t25:P.underlying (ρ.t 25)=some (TypeDesc.int IntKind.u32)
 a25:∀ w,(isAgg (ρ.t 25)).run P w=.ok false w
 z25:∀ w,(Go.sizeOf (ρ.t 25)).run P w=.ok 1 w
 v25:∀ w,(zeroValue (ρ.t 25)).run P w=.ok (Value.int IntKind.u32 0) w
 t32:P.underlying (ρ.t 32)=some (TypeDesc.int IntKind.u64)
 a32:∀ w,(isAgg (ρ.t 32)).run P w=.ok false w
 z32:∀ w,(Go.sizeOf (ρ.t 32)).run P w=.ok 1 w
 v32:∀ w,(zeroValue (ρ.t 32)).run P w=.ok (Value.int IntKind.u64 0) w
 t44:P.underlying (ρ.t 44)=some (TypeDesc.int IntKind.u32)
 a44:∀ w,(isAgg (ρ.t 44)).run P w=.ok false w
 z44:∀ w,(Go.sizeOf (ρ.t 44)).run P w=.ok 1 w
 v44:∀ w,(zeroValue (ρ.t 44)).run P w=.ok (Value.int IntKind.u32 0) w
 t46:P.underlying (ρ.t 46)=some (TypeDesc.int IntKind.u64)
 a46:∀ w,(isAgg (ρ.t 46)).run P w=.ok false w
 z46:∀ w,(Go.sizeOf (ρ.t 46)).run P w=.ok 1 w
 v46:∀ w,(zeroValue (ρ.t 46)).run P w=.ok (Value.int IntKind.u64 0) w
 t53:P.underlying (ρ.t 53)=some (TypeDesc.int IntKind.u64)
 a53:∀ w,(isAgg (ρ.t 53)).run P w=.ok false w
 z53:∀ w,(Go.sizeOf (ρ.t 53)).run P w=.ok 1 w
 v53:∀ w,(zeroValue (ρ.t 53)).run P w=.ok (Value.int IntKind.u64 0) w
 t63:P.underlying (ρ.t 63)=some (TypeDesc.pointer (ρ.t 53))
 a63:∀ w,(isAgg (ρ.t 63)).run P w=.ok false w
 z63:∀ w,(Go.sizeOf (ρ.t 63)).run P w=.ok 1 w
 v63:∀ w,(zeroValue (ρ.t 63)).run P w=.ok (Value.pointer none) w
structure SlW32.n13 (P:Program) (ρ:Ren):Prop where
 mixed:P.follows .mixedOrders=true
 f13:Bears P (ρ.f 13) (SlBodyM.n13 ρ)
 f16:Bears P (ρ.f 16) (SlBodyM.n16 ρ)
 f33:Bears P (ρ.f 33) (SlBodyM.n33 ρ)
 f34:Bears P (ρ.f 34) (SlBodyM.n34 ρ)
 f35:Bears P (ρ.f 35) (SlBodyM.n35 ρ)
 f40:Bears P (ρ.f 40) (SlBodyM.n40 ρ)
 t0:P.underlying (ρ.t 0)=some (TypeDesc.tuple #[])
 a0:∀ w,(isAgg (ρ.t 0)).run P w=.ok false w
 z0:∀ w,(Go.sizeOf (ρ.t 0)).run P w=.ok 1 w
 v0:∀ w,(zeroValue (ρ.t 0)).run P w=.ok (Value.tuple #[]) w
 t3:P.underlying (ρ.t 3)=some (TypeDesc.int IntKind.i64)
 a3:∀ w,(isAgg (ρ.t 3)).run P w=.ok false w
 z3:∀ w,(Go.sizeOf (ρ.t 3)).run P w=.ok 1 w
 v3:∀ w,(zeroValue (ρ.t 3)).run P w=.ok (Value.int IntKind.i64 0) w
 t4:P.underlying (ρ.t 4)=some (TypeDesc.bool)
 a4:∀ w,(isAgg (ρ.t 4)).run P w=.ok false w
 z4:∀ w,(Go.sizeOf (ρ.t 4)).run P w=.ok 1 w
 v4:∀ w,(zeroValue (ρ.t 4)).run P w=.ok (Value.bool false) w
 t22:P.underlying (ρ.t 22)=some (TypeDesc.slice (ρ.t 25))
 a22:∀ w,(isAgg (ρ.t 22)).run P w=.ok false w
 z22:∀ w,(Go.sizeOf (ρ.t 22)).run P w=.ok 1 w
 v22:∀ w,(zeroValue (ρ.t 22)).run P w=.ok (Value.slice none 0 0) w
 t25:P.underlying (ρ.t 25)=some (TypeDesc.int IntKind.u32)
 a25:∀ w,(isAgg (ρ.t 25)).run P w=.ok false w
 z25:∀ w,(Go.sizeOf (ρ.t 25)).run P w=.ok 1 w
 v25:∀ w,(zeroValue (ρ.t 25)).run P w=.ok (Value.int IntKind.u32 0) w
 t35:P.underlying (ρ.t 35)=some (TypeDesc.int IntKind.i64)
 a35:∀ w,(isAgg (ρ.t 35)).run P w=.ok false w
 z35:∀ w,(Go.sizeOf (ρ.t 35)).run P w=.ok 1 w
 v35:∀ w,(zeroValue (ρ.t 35)).run P w=.ok (Value.int IntKind.i64 0) w
 t57:P.underlying (ρ.t 57)=some (TypeDesc.pointer (ρ.t 3))
 a57:∀ w,(isAgg (ρ.t 57)).run P w=.ok false w
 z57:∀ w,(Go.sizeOf (ρ.t 57)).run P w=.ok 1 w
 v57:∀ w,(zeroValue (ρ.t 57)).run P w=.ok (Value.pointer none) w
 t64:P.underlying (ρ.t 64)=some (TypeDesc.tuple #[ρ.t 3,ρ.t 3])
 a64:∀ w,(isAgg (ρ.t 64)).run P w=.ok false w
 z64:∀ w,(Go.sizeOf (ρ.t 64)).run P w=.ok 1 w
 v64:∀ w,(zeroValue (ρ.t 64)).run P w=.ok (Value.tuple #[Value.int IntKind.i64 0,Value.int IntKind.i64 0]) w
structure SlW32.n14 (P:Program) (ρ:Ren):Prop where
 mixed:P.follows .mixedOrders=true
 f14:Bears P (ρ.f 14) (SlBodyM.n14 ρ)
 t0:P.underlying (ρ.t 0)=some (TypeDesc.tuple #[])
 a0:∀ w,(isAgg (ρ.t 0)).run P w=.ok false w
 z0:∀ w,(Go.sizeOf (ρ.t 0)).run P w=.ok 1 w
 v0:∀ w,(zeroValue (ρ.t 0)).run P w=.ok (Value.tuple #[]) w
 t3:P.underlying (ρ.t 3)=some (TypeDesc.int IntKind.i64)
 a3:∀ w,(isAgg (ρ.t 3)).run P w=.ok false w
 z3:∀ w,(Go.sizeOf (ρ.t 3)).run P w=.ok 1 w
 v3:∀ w,(zeroValue (ρ.t 3)).run P w=.ok (Value.int IntKind.i64 0) w
 t4:P.underlying (ρ.t 4)=some (TypeDesc.bool)
 a4:∀ w,(isAgg (ρ.t 4)).run P w=.ok false w
 z4:∀ w,(Go.sizeOf (ρ.t 4)).run P w=.ok 1 w
 v4:∀ w,(zeroValue (ρ.t 4)).run P w=.ok (Value.bool false) w
 t22:P.underlying (ρ.t 22)=some (TypeDesc.slice (ρ.t 25))
 a22:∀ w,(isAgg (ρ.t 22)).run P w=.ok false w
 z22:∀ w,(Go.sizeOf (ρ.t 22)).run P w=.ok 1 w
 v22:∀ w,(zeroValue (ρ.t 22)).run P w=.ok (Value.slice none 0 0) w
 t25:P.underlying (ρ.t 25)=some (TypeDesc.int IntKind.u32)
 a25:∀ w,(isAgg (ρ.t 25)).run P w=.ok false w
 z25:∀ w,(Go.sizeOf (ρ.t 25)).run P w=.ok 1 w
 v25:∀ w,(zeroValue (ρ.t 25)).run P w=.ok (Value.int IntKind.u32 0) w
structure SlW32.n15 (P:Program) (ρ:Ren):Prop where
 mixed:P.follows .mixedOrders=true
 f15:Bears P (ρ.f 15) (SlBodyM.n15 ρ)
 f16:Bears P (ρ.f 16) (SlBodyM.n16 ρ)
 f35:Bears P (ρ.f 35) (SlBodyM.n35 ρ)
 t0:P.underlying (ρ.t 0)=some (TypeDesc.tuple #[])
 a0:∀ w,(isAgg (ρ.t 0)).run P w=.ok false w
 z0:∀ w,(Go.sizeOf (ρ.t 0)).run P w=.ok 1 w
 v0:∀ w,(zeroValue (ρ.t 0)).run P w=.ok (Value.tuple #[]) w
 t3:P.underlying (ρ.t 3)=some (TypeDesc.int IntKind.i64)
 a3:∀ w,(isAgg (ρ.t 3)).run P w=.ok false w
 z3:∀ w,(Go.sizeOf (ρ.t 3)).run P w=.ok 1 w
 v3:∀ w,(zeroValue (ρ.t 3)).run P w=.ok (Value.int IntKind.i64 0) w
 t4:P.underlying (ρ.t 4)=some (TypeDesc.bool)
 a4:∀ w,(isAgg (ρ.t 4)).run P w=.ok false w
 z4:∀ w,(Go.sizeOf (ρ.t 4)).run P w=.ok 1 w
 v4:∀ w,(zeroValue (ρ.t 4)).run P w=.ok (Value.bool false) w
 t22:P.underlying (ρ.t 22)=some (TypeDesc.slice (ρ.t 25))
 a22:∀ w,(isAgg (ρ.t 22)).run P w=.ok false w
 z22:∀ w,(Go.sizeOf (ρ.t 22)).run P w=.ok 1 w
 v22:∀ w,(zeroValue (ρ.t 22)).run P w=.ok (Value.slice none 0 0) w
 t25:P.underlying (ρ.t 25)=some (TypeDesc.int IntKind.u32)
 a25:∀ w,(isAgg (ρ.t 25)).run P w=.ok false w
 z25:∀ w,(Go.sizeOf (ρ.t 25)).run P w=.ok 1 w
 v25:∀ w,(zeroValue (ρ.t 25)).run P w=.ok (Value.int IntKind.u32 0) w
structure SlW32.n16 (P:Program) (ρ:Ren):Prop where
 mixed:P.follows .mixedOrders=true
 f16:Bears P (ρ.f 16) (SlBodyM.n16 ρ)
 f35:Bears P (ρ.f 35) (SlBodyM.n35 ρ)
 t4:P.underlying (ρ.t 4)=some (TypeDesc.bool)
 a4:∀ w,(isAgg (ρ.t 4)).run P w=.ok false w
 z4:∀ w,(Go.sizeOf (ρ.t 4)).run P w=.ok 1 w
 v4:∀ w,(zeroValue (ρ.t 4)).run P w=.ok (Value.bool false) w
 t25:P.underlying (ρ.t 25)=some (TypeDesc.int IntKind.u32)
 a25:∀ w,(isAgg (ρ.t 25)).run P w=.ok false w
 z25:∀ w,(Go.sizeOf (ρ.t 25)).run P w=.ok 1 w
 v25:∀ w,(zeroValue (ρ.t 25)).run P w=.ok (Value.int IntKind.u32 0) w
structure SlW32.n17 (P:Program) (ρ:Ren):Prop where
 mixed:P.follows .mixedOrders=true
 f16:Bears P (ρ.f 16) (SlBodyM.n16 ρ)
 f17:Bears P (ρ.f 17) (SlBodyM.n17 ρ)
 f35:Bears P (ρ.f 35) (SlBodyM.n35 ρ)
 t0:P.underlying (ρ.t 0)=some (TypeDesc.tuple #[])
 a0:∀ w,(isAgg (ρ.t 0)).run P w=.ok false w
 z0:∀ w,(Go.sizeOf (ρ.t 0)).run P w=.ok 1 w
 v0:∀ w,(zeroValue (ρ.t 0)).run P w=.ok (Value.tuple #[]) w
 t3:P.underlying (ρ.t 3)=some (TypeDesc.int IntKind.i64)
 a3:∀ w,(isAgg (ρ.t 3)).run P w=.ok false w
 z3:∀ w,(Go.sizeOf (ρ.t 3)).run P w=.ok 1 w
 v3:∀ w,(zeroValue (ρ.t 3)).run P w=.ok (Value.int IntKind.i64 0) w
 t4:P.underlying (ρ.t 4)=some (TypeDesc.bool)
 a4:∀ w,(isAgg (ρ.t 4)).run P w=.ok false w
 z4:∀ w,(Go.sizeOf (ρ.t 4)).run P w=.ok 1 w
 v4:∀ w,(zeroValue (ρ.t 4)).run P w=.ok (Value.bool false) w
 t22:P.underlying (ρ.t 22)=some (TypeDesc.slice (ρ.t 25))
 a22:∀ w,(isAgg (ρ.t 22)).run P w=.ok false w
 z22:∀ w,(Go.sizeOf (ρ.t 22)).run P w=.ok 1 w
 v22:∀ w,(zeroValue (ρ.t 22)).run P w=.ok (Value.slice none 0 0) w
 t25:P.underlying (ρ.t 25)=some (TypeDesc.int IntKind.u32)
 a25:∀ w,(isAgg (ρ.t 25)).run P w=.ok false w
 z25:∀ w,(Go.sizeOf (ρ.t 25)).run P w=.ok 1 w
 v25:∀ w,(zeroValue (ρ.t 25)).run P w=.ok (Value.int IntKind.u32 0) w
structure SlW32.n18 (P:Program) (ρ:Ren):Prop where
 mixed:P.follows .mixedOrders=true
 f16:Bears P (ρ.f 16) (SlBodyM.n16 ρ)
 f18:Bears P (ρ.f 18) (SlBodyM.n18 ρ)
 f35:Bears P (ρ.f 35) (SlBodyM.n35 ρ)
 t0:P.underlying (ρ.t 0)=some (TypeDesc.tuple #[])
 a0:∀ w,(isAgg (ρ.t 0)).run P w=.ok false w
 z0:∀ w,(Go.sizeOf (ρ.t 0)).run P w=.ok 1 w
 v0:∀ w,(zeroValue (ρ.t 0)).run P w=.ok (Value.tuple #[]) w
 t3:P.underlying (ρ.t 3)=some (TypeDesc.int IntKind.i64)
 a3:∀ w,(isAgg (ρ.t 3)).run P w=.ok false w
 z3:∀ w,(Go.sizeOf (ρ.t 3)).run P w=.ok 1 w
 v3:∀ w,(zeroValue (ρ.t 3)).run P w=.ok (Value.int IntKind.i64 0) w
 t4:P.underlying (ρ.t 4)=some (TypeDesc.bool)
 a4:∀ w,(isAgg (ρ.t 4)).run P w=.ok false w
 z4:∀ w,(Go.sizeOf (ρ.t 4)).run P w=.ok 1 w
 v4:∀ w,(zeroValue (ρ.t 4)).run P w=.ok (Value.bool false) w
 t22:P.underlying (ρ.t 22)=some (TypeDesc.slice (ρ.t 25))
 a22:∀ w,(isAgg (ρ.t 22)).run P w=.ok false w
 z22:∀ w,(Go.sizeOf (ρ.t 22)).run P w=.ok 1 w
 v22:∀ w,(zeroValue (ρ.t 22)).run P w=.ok (Value.slice none 0 0) w
 t25:P.underlying (ρ.t 25)=some (TypeDesc.int IntKind.u32)
 a25:∀ w,(isAgg (ρ.t 25)).run P w=.ok false w
 z25:∀ w,(Go.sizeOf (ρ.t 25)).run P w=.ok 1 w
 v25:∀ w,(zeroValue (ρ.t 25)).run P w=.ok (Value.int IntKind.u32 0) w
structure SlW32.n20 (P:Program) (ρ:Ren):Prop where
 mixed:P.follows .mixedOrders=true
 f20:P.funcs[ρ.f 20]?=some (SlBodyM.n20 ρ)
 t3:P.underlying (ρ.t 3)=some (TypeDesc.int IntKind.i64)
 a3:∀ w,(isAgg (ρ.t 3)).run P w=.ok false w
 z3:∀ w,(Go.sizeOf (ρ.t 3)).run P w=.ok 1 w
 v3:∀ w,(zeroValue (ρ.t 3)).run P w=.ok (Value.int IntKind.i64 0) w
 t4:P.underlying (ρ.t 4)=some (TypeDesc.bool)
 a4:∀ w,(isAgg (ρ.t 4)).run P w=.ok false w
 z4:∀ w,(Go.sizeOf (ρ.t 4)).run P w=.ok 1 w
 v4:∀ w,(zeroValue (ρ.t 4)).run P w=.ok (Value.bool false) w
 t5:P.underlying (ρ.t 5)=some (TypeDesc.int IntKind.u8)
 a5:∀ w,(isAgg (ρ.t 5)).run P w=.ok false w
 z5:∀ w,(Go.sizeOf (ρ.t 5)).run P w=.ok 1 w
 v5:∀ w,(zeroValue (ρ.t 5)).run P w=.ok (Value.int IntKind.u8 0) w
 t9:P.underlying (ρ.t 9)=some (TypeDesc.string)
 a9:∀ w,(isAgg (ρ.t 9)).run P w=.ok false w
 z9:∀ w,(Go.sizeOf (ρ.t 9)).run P w=.ok 1 w
 v9:∀ w,(zeroValue (ρ.t 9)).run P w=.ok (Value.string { data:=#[] }) w
 t32:P.underlying (ρ.t 32)=some (TypeDesc.int IntKind.u64)
 a32:∀ w,(isAgg (ρ.t 32)).run P w=.ok false w
 z32:∀ w,(Go.sizeOf (ρ.t 32)).run P w=.ok 1 w
 v32:∀ w,(zeroValue (ρ.t 32)).run P w=.ok (Value.int IntKind.u64 0) w
 t46:P.underlying (ρ.t 46)=some (TypeDesc.int IntKind.u64)
 a46:∀ w,(isAgg (ρ.t 46)).run P w=.ok false w
 z46:∀ w,(Go.sizeOf (ρ.t 46)).run P w=.ok 1 w
 v46:∀ w,(zeroValue (ρ.t 46)).run P w=.ok (Value.int IntKind.u64 0) w
structure SlW32.n30 (P:Program) (ρ:Ren):Prop where
 mixed:P.follows .mixedOrders=true
 f16:Bears P (ρ.f 16) (SlBodyM.n16 ρ)
 f30:Bears P (ρ.f 30) (SlBodyM.n30 ρ)
 f35:Bears P (ρ.f 35) (SlBodyM.n35 ρ)
 t0:P.underlying (ρ.t 0)=some (TypeDesc.tuple #[])
 a0:∀ w,(isAgg (ρ.t 0)).run P w=.ok false w
 z0:∀ w,(Go.sizeOf (ρ.t 0)).run P w=.ok 1 w
 v0:∀ w,(zeroValue (ρ.t 0)).run P w=.ok (Value.tuple #[]) w
 t3:P.underlying (ρ.t 3)=some (TypeDesc.int IntKind.i64)
 a3:∀ w,(isAgg (ρ.t 3)).run P w=.ok false w
 z3:∀ w,(Go.sizeOf (ρ.t 3)).run P w=.ok 1 w
 v3:∀ w,(zeroValue (ρ.t 3)).run P w=.ok (Value.int IntKind.i64 0) w
 t4:P.underlying (ρ.t 4)=some (TypeDesc.bool)
 a4:∀ w,(isAgg (ρ.t 4)).run P w=.ok false w
 z4:∀ w,(Go.sizeOf (ρ.t 4)).run P w=.ok 1 w
 v4:∀ w,(zeroValue (ρ.t 4)).run P w=.ok (Value.bool false) w
 t22:P.underlying (ρ.t 22)=some (TypeDesc.slice (ρ.t 25))
 a22:∀ w,(isAgg (ρ.t 22)).run P w=.ok false w
 z22:∀ w,(Go.sizeOf (ρ.t 22)).run P w=.ok 1 w
 v22:∀ w,(zeroValue (ρ.t 22)).run P w=.ok (Value.slice none 0 0) w
 t25:P.underlying (ρ.t 25)=some (TypeDesc.int IntKind.u32)
 a25:∀ w,(isAgg (ρ.t 25)).run P w=.ok false w
 z25:∀ w,(Go.sizeOf (ρ.t 25)).run P w=.ok 1 w
 v25:∀ w,(zeroValue (ρ.t 25)).run P w=.ok (Value.int IntKind.u32 0) w
structure SlW32.n31 (P:Program) (ρ:Ren):Prop where
 mixed:P.follows .mixedOrders=true
 f8:P.funcs[ρ.f 8]?=some (SlBodyM.n8 ρ)
 f19:P.funcs[ρ.f 19]?=some (SlBodyM.n19 ρ)
 f20:P.funcs[ρ.f 20]?=some (SlBodyM.n20 ρ)
 f31:P.funcs[ρ.f 31]?=some (SlBodyM.n31 ρ)
 t3:P.underlying (ρ.t 3)=some (TypeDesc.int IntKind.i64)
 a3:∀ w,(isAgg (ρ.t 3)).run P w=.ok false w
 z3:∀ w,(Go.sizeOf (ρ.t 3)).run P w=.ok 1 w
 v3:∀ w,(zeroValue (ρ.t 3)).run P w=.ok (Value.int IntKind.i64 0) w
 t4:P.underlying (ρ.t 4)=some (TypeDesc.bool)
 a4:∀ w,(isAgg (ρ.t 4)).run P w=.ok false w
 z4:∀ w,(Go.sizeOf (ρ.t 4)).run P w=.ok 1 w
 v4:∀ w,(zeroValue (ρ.t 4)).run P w=.ok (Value.bool false) w
 t5:P.underlying (ρ.t 5)=some (TypeDesc.int IntKind.u8)
 a5:∀ w,(isAgg (ρ.t 5)).run P w=.ok false w
 z5:∀ w,(Go.sizeOf (ρ.t 5)).run P w=.ok 1 w
 v5:∀ w,(zeroValue (ρ.t 5)).run P w=.ok (Value.int IntKind.u8 0) w
 t9:P.underlying (ρ.t 9)=some (TypeDesc.string)
 a9:∀ w,(isAgg (ρ.t 9)).run P w=.ok false w
 z9:∀ w,(Go.sizeOf (ρ.t 9)).run P w=.ok 1 w
 v9:∀ w,(zeroValue (ρ.t 9)).run P w=.ok (Value.string { data:=#[] }) w
 t32:P.underlying (ρ.t 32)=some (TypeDesc.int IntKind.u64)
 a32:∀ w,(isAgg (ρ.t 32)).run P w=.ok false w
 z32:∀ w,(Go.sizeOf (ρ.t 32)).run P w=.ok 1 w
 v32:∀ w,(zeroValue (ρ.t 32)).run P w=.ok (Value.int IntKind.u64 0) w
 t44:P.underlying (ρ.t 44)=some (TypeDesc.int IntKind.u32)
 a44:∀ w,(isAgg (ρ.t 44)).run P w=.ok false w
 z44:∀ w,(Go.sizeOf (ρ.t 44)).run P w=.ok 1 w
 v44:∀ w,(zeroValue (ρ.t 44)).run P w=.ok (Value.int IntKind.u32 0) w
 t46:P.underlying (ρ.t 46)=some (TypeDesc.int IntKind.u64)
 a46:∀ w,(isAgg (ρ.t 46)).run P w=.ok false w
 z46:∀ w,(Go.sizeOf (ρ.t 46)).run P w=.ok 1 w
 v46:∀ w,(zeroValue (ρ.t 46)).run P w=.ok (Value.int IntKind.u64 0) w
structure SlW32.n32 (P:Program) (ρ:Ren):Prop where
 mixed:P.follows .mixedOrders=true
 f32:P.funcs[ρ.f 32]?=some (SlBodyM.n32 ρ)
 t0:P.underlying (ρ.t 0)=some (TypeDesc.tuple #[])
 a0:∀ w,(isAgg (ρ.t 0)).run P w=.ok false w
 z0:∀ w,(Go.sizeOf (ρ.t 0)).run P w=.ok 1 w
 v0:∀ w,(zeroValue (ρ.t 0)).run P w=.ok (Value.tuple #[]) w
 t32:P.underlying (ρ.t 32)=some (TypeDesc.int IntKind.u64)
 a32:∀ w,(isAgg (ρ.t 32)).run P w=.ok false w
 z32:∀ w,(Go.sizeOf (ρ.t 32)).run P w=.ok 1 w
 v32:∀ w,(zeroValue (ρ.t 32)).run P w=.ok (Value.int IntKind.u64 0) w
 t46:P.underlying (ρ.t 46)=some (TypeDesc.int IntKind.u64)
 a46:∀ w,(isAgg (ρ.t 46)).run P w=.ok false w
 z46:∀ w,(Go.sizeOf (ρ.t 46)).run P w=.ok 1 w
 v46:∀ w,(zeroValue (ρ.t 46)).run P w=.ok (Value.int IntKind.u64 0) w
 t53:P.underlying (ρ.t 53)=some (TypeDesc.int IntKind.u64)
 a53:∀ w,(isAgg (ρ.t 53)).run P w=.ok false w
 z53:∀ w,(Go.sizeOf (ρ.t 53)).run P w=.ok 1 w
 v53:∀ w,(zeroValue (ρ.t 53)).run P w=.ok (Value.int IntKind.u64 0) w
 t63:P.underlying (ρ.t 63)=some (TypeDesc.pointer (ρ.t 53))
 a63:∀ w,(isAgg (ρ.t 63)).run P w=.ok false w
 z63:∀ w,(Go.sizeOf (ρ.t 63)).run P w=.ok 1 w
 v63:∀ w,(zeroValue (ρ.t 63)).run P w=.ok (Value.pointer none) w
structure SlW32.n33 (P:Program) (ρ:Ren):Prop where
 mixed:P.follows .mixedOrders=true
 f16:Bears P (ρ.f 16) (SlBodyM.n16 ρ)
 f33:Bears P (ρ.f 33) (SlBodyM.n33 ρ)
 f34:Bears P (ρ.f 34) (SlBodyM.n34 ρ)
 f35:Bears P (ρ.f 35) (SlBodyM.n35 ρ)
 f40:Bears P (ρ.f 40) (SlBodyM.n40 ρ)
 t0:P.underlying (ρ.t 0)=some (TypeDesc.tuple #[])
 a0:∀ w,(isAgg (ρ.t 0)).run P w=.ok false w
 z0:∀ w,(Go.sizeOf (ρ.t 0)).run P w=.ok 1 w
 v0:∀ w,(zeroValue (ρ.t 0)).run P w=.ok (Value.tuple #[]) w
 t3:P.underlying (ρ.t 3)=some (TypeDesc.int IntKind.i64)
 a3:∀ w,(isAgg (ρ.t 3)).run P w=.ok false w
 z3:∀ w,(Go.sizeOf (ρ.t 3)).run P w=.ok 1 w
 v3:∀ w,(zeroValue (ρ.t 3)).run P w=.ok (Value.int IntKind.i64 0) w
 t4:P.underlying (ρ.t 4)=some (TypeDesc.bool)
 a4:∀ w,(isAgg (ρ.t 4)).run P w=.ok false w
 z4:∀ w,(Go.sizeOf (ρ.t 4)).run P w=.ok 1 w
 v4:∀ w,(zeroValue (ρ.t 4)).run P w=.ok (Value.bool false) w
 t22:P.underlying (ρ.t 22)=some (TypeDesc.slice (ρ.t 25))
 a22:∀ w,(isAgg (ρ.t 22)).run P w=.ok false w
 z22:∀ w,(Go.sizeOf (ρ.t 22)).run P w=.ok 1 w
 v22:∀ w,(zeroValue (ρ.t 22)).run P w=.ok (Value.slice none 0 0) w
 t25:P.underlying (ρ.t 25)=some (TypeDesc.int IntKind.u32)
 a25:∀ w,(isAgg (ρ.t 25)).run P w=.ok false w
 z25:∀ w,(Go.sizeOf (ρ.t 25)).run P w=.ok 1 w
 v25:∀ w,(zeroValue (ρ.t 25)).run P w=.ok (Value.int IntKind.u32 0) w
 t57:P.underlying (ρ.t 57)=some (TypeDesc.pointer (ρ.t 3))
 a57:∀ w,(isAgg (ρ.t 57)).run P w=.ok false w
 z57:∀ w,(Go.sizeOf (ρ.t 57)).run P w=.ok 1 w
 v57:∀ w,(zeroValue (ρ.t 57)).run P w=.ok (Value.pointer none) w
 t64:P.underlying (ρ.t 64)=some (TypeDesc.tuple #[ρ.t 3,ρ.t 3])
 a64:∀ w,(isAgg (ρ.t 64)).run P w=.ok false w
 z64:∀ w,(Go.sizeOf (ρ.t 64)).run P w=.ok 1 w
 v64:∀ w,(zeroValue (ρ.t 64)).run P w=.ok (Value.tuple #[Value.int IntKind.i64 0,Value.int IntKind.i64 0]) w
structure SlW32.n34 (P:Program) (ρ:Ren):Prop where
 mixed:P.follows .mixedOrders=true
 f16:Bears P (ρ.f 16) (SlBodyM.n16 ρ)
 f34:Bears P (ρ.f 34) (SlBodyM.n34 ρ)
 f35:Bears P (ρ.f 35) (SlBodyM.n35 ρ)
 f40:Bears P (ρ.f 40) (SlBodyM.n40 ρ)
 t0:P.underlying (ρ.t 0)=some (TypeDesc.tuple #[])
 a0:∀ w,(isAgg (ρ.t 0)).run P w=.ok false w
 z0:∀ w,(Go.sizeOf (ρ.t 0)).run P w=.ok 1 w
 v0:∀ w,(zeroValue (ρ.t 0)).run P w=.ok (Value.tuple #[]) w
 t3:P.underlying (ρ.t 3)=some (TypeDesc.int IntKind.i64)
 a3:∀ w,(isAgg (ρ.t 3)).run P w=.ok false w
 z3:∀ w,(Go.sizeOf (ρ.t 3)).run P w=.ok 1 w
 v3:∀ w,(zeroValue (ρ.t 3)).run P w=.ok (Value.int IntKind.i64 0) w
 t4:P.underlying (ρ.t 4)=some (TypeDesc.bool)
 a4:∀ w,(isAgg (ρ.t 4)).run P w=.ok false w
 z4:∀ w,(Go.sizeOf (ρ.t 4)).run P w=.ok 1 w
 v4:∀ w,(zeroValue (ρ.t 4)).run P w=.ok (Value.bool false) w
 t22:P.underlying (ρ.t 22)=some (TypeDesc.slice (ρ.t 25))
 a22:∀ w,(isAgg (ρ.t 22)).run P w=.ok false w
 z22:∀ w,(Go.sizeOf (ρ.t 22)).run P w=.ok 1 w
 v22:∀ w,(zeroValue (ρ.t 22)).run P w=.ok (Value.slice none 0 0) w
 t25:P.underlying (ρ.t 25)=some (TypeDesc.int IntKind.u32)
 a25:∀ w,(isAgg (ρ.t 25)).run P w=.ok false w
 z25:∀ w,(Go.sizeOf (ρ.t 25)).run P w=.ok 1 w
 v25:∀ w,(zeroValue (ρ.t 25)).run P w=.ok (Value.int IntKind.u32 0) w
 t57:P.underlying (ρ.t 57)=some (TypeDesc.pointer (ρ.t 3))
 a57:∀ w,(isAgg (ρ.t 57)).run P w=.ok false w
 z57:∀ w,(Go.sizeOf (ρ.t 57)).run P w=.ok 1 w
 v57:∀ w,(zeroValue (ρ.t 57)).run P w=.ok (Value.pointer none) w
 t64:P.underlying (ρ.t 64)=some (TypeDesc.tuple #[ρ.t 3,ρ.t 3])
 a64:∀ w,(isAgg (ρ.t 64)).run P w=.ok false w
 z64:∀ w,(Go.sizeOf (ρ.t 64)).run P w=.ok 1 w
 v64:∀ w,(zeroValue (ρ.t 64)).run P w=.ok (Value.tuple #[Value.int IntKind.i64 0,Value.int IntKind.i64 0]) w
structure SlW32.n35 (P:Program) (ρ:Ren):Prop where
 mixed:P.follows .mixedOrders=true
 f35:Bears P (ρ.f 35) (SlBodyM.n35 ρ)
 t4:P.underlying (ρ.t 4)=some (TypeDesc.bool)
 a4:∀ w,(isAgg (ρ.t 4)).run P w=.ok false w
 z4:∀ w,(Go.sizeOf (ρ.t 4)).run P w=.ok 1 w
 v4:∀ w,(zeroValue (ρ.t 4)).run P w=.ok (Value.bool false) w
 t25:P.underlying (ρ.t 25)=some (TypeDesc.int IntKind.u32)
 a25:∀ w,(isAgg (ρ.t 25)).run P w=.ok false w
 z25:∀ w,(Go.sizeOf (ρ.t 25)).run P w=.ok 1 w
 v25:∀ w,(zeroValue (ρ.t 25)).run P w=.ok (Value.int IntKind.u32 0) w
structure SlW32.n40 (P:Program) (ρ:Ren):Prop where
 mixed:P.follows .mixedOrders=true
 f16:Bears P (ρ.f 16) (SlBodyM.n16 ρ)
 f35:Bears P (ρ.f 35) (SlBodyM.n35 ρ)
 f40:Bears P (ρ.f 40) (SlBodyM.n40 ρ)
 t0:P.underlying (ρ.t 0)=some (TypeDesc.tuple #[])
 a0:∀ w,(isAgg (ρ.t 0)).run P w=.ok false w
 z0:∀ w,(Go.sizeOf (ρ.t 0)).run P w=.ok 1 w
 v0:∀ w,(zeroValue (ρ.t 0)).run P w=.ok (Value.tuple #[]) w
 t3:P.underlying (ρ.t 3)=some (TypeDesc.int IntKind.i64)
 a3:∀ w,(isAgg (ρ.t 3)).run P w=.ok false w
 z3:∀ w,(Go.sizeOf (ρ.t 3)).run P w=.ok 1 w
 v3:∀ w,(zeroValue (ρ.t 3)).run P w=.ok (Value.int IntKind.i64 0) w
 t4:P.underlying (ρ.t 4)=some (TypeDesc.bool)
 a4:∀ w,(isAgg (ρ.t 4)).run P w=.ok false w
 z4:∀ w,(Go.sizeOf (ρ.t 4)).run P w=.ok 1 w
 v4:∀ w,(zeroValue (ρ.t 4)).run P w=.ok (Value.bool false) w
 t22:P.underlying (ρ.t 22)=some (TypeDesc.slice (ρ.t 25))
 a22:∀ w,(isAgg (ρ.t 22)).run P w=.ok false w
 z22:∀ w,(Go.sizeOf (ρ.t 22)).run P w=.ok 1 w
 v22:∀ w,(zeroValue (ρ.t 22)).run P w=.ok (Value.slice none 0 0) w
 t25:P.underlying (ρ.t 25)=some (TypeDesc.int IntKind.u32)
 a25:∀ w,(isAgg (ρ.t 25)).run P w=.ok false w
 z25:∀ w,(Go.sizeOf (ρ.t 25)).run P w=.ok 1 w
 v25:∀ w,(zeroValue (ρ.t 25)).run P w=.ok (Value.int IntKind.u32 0) w
 t57:P.underlying (ρ.t 57)=some (TypeDesc.pointer (ρ.t 3))
 a57:∀ w,(isAgg (ρ.t 57)).run P w=.ok false w
 z57:∀ w,(Go.sizeOf (ρ.t 57)).run P w=.ok 1 w
 v57:∀ w,(zeroValue (ρ.t 57)).run P w=.ok (Value.pointer none) w
open Go.Sort
abbrev encU:Int→Value:=fun x=>Value.int .u32 x
theorem holds_asideU {w:World} {blk off sb so n t:Nat} {d:Array Int} (h:Holds (Value.int .u32) w blk off d) (hne:sb≠blk):Holds (Value.int .u32) (putRow (Value.int .i64) (Sort.ahead w n) sb so (one t)) blk off d:=fun j hj =>
 ⟨by rw [cell?_putRow_other _ _ _ _ _ _ (Or.inl (Ne.symm hne))];exact (h j hj).1,by rw [frozen?_putRow];exact (h j hj).2⟩
end Go.Proofs.YtiomgckodmecbaaGreat
namespace Go.Proofs.YtiomgckodmecbaaGreat
open Go.RowKit Go.Maps Go.Sort Go.Shelf
variable {P:Program} {ρ:Ren}
def AnyZU.apAssign (ρ : Ren) : Code := (Code.region 2 #[{ dst := some 5, op := Op.assign (Operand.tmp 7), type := ρ.t 26, pos := "iter.go:51", after := #[], guard := none }] false)
def AnyZU.apBody (ρ : Ren) : Code := (Code.block 1 (Code.region 3 #[{ dst := some 8, op := Op.load (ρ.t 24) (Operand.tmp 2), type := ρ.t 24, pos := "iter.go:52", after := #[], guard := none }, { dst := some 9, op := Op.move (Operand.tmp 5), type := ρ.t 26, pos := "iter.go:52", after := #[], guard := none }, { dst := some 10, op := Op.buildSlice (ρ.t 24) 1 #[(0, Operand.tmp 9)], type := ρ.t 24, pos := "iter.go:52", after := #[{ on := 1, ground := Ground.data }], guard := none }, { dst := some 11, op := Op.call { callee := Callee.builtin Builtin.append, args := #[Operand.tmp 8, Operand.tmp 10], argTypes := #[ρ.t 24, ρ.t 24] }, type := ρ.t 24, pos := "iter.go:52", after := #[{ on := 0, ground := Ground.data }, { on := 2, ground := Ground.data }], guard := none }, { dst := none, op := Op.store (ρ.t 24) (Operand.tmp 2) (Operand.tmp 11), type := ρ.t 0, pos := "iter.go:52", after := #[{ on := 3, ground := Ground.data }, { on := 3, ground := Ground.chain }, { on := 0, ground := Ground.phase }, { on := 1, ground := Ground.phase }, { on := 2, ground := Ground.phase }, { on := 3, ground := Ground.phase }], guard := none }] false))
def AnyZU.apRec (ρ:Ren) (fn:FuncId) (sv:Value) (Bs D:Nat) (st:LoopState) (pend:Option Code):Loop :=
  { state:=st,pending:=pend,fn,tmps:=#[.slice none 0 0,sv,.pointer (some ⟨Bs,0,none⟩),undef,.slice none 0 0,undef,sv,undef,undef,undef,undef,undef,undef],params:=#[7],assign:=AnyZU.apAssign ρ,body:=AnyZU.apBody ρ,defers:=D }
structure AnyZU.ApAt (ρ:Ren) (w0:World) (fn:FuncId) (sv:Value) (Bs l D:Nat) (ss:List Int) (W:World):Prop where
  box:∃ v,W.heap[Bs]?=some (.cells #[v] (ρ.t 24) (0,0))∧W.ownsRow w0.heap.size (ρ.t 26) 1 v ss.length (ss.map encU)∧(v=.slice none 0 0↔ss=[])
  L:W.heap[l]?=some (.loop (AnyZU.apRec ρ fn sv Bs D .ready none))
  K:W.heap[D]?=some (.deferred (some []))
  below:Below w0.heap.size w0 W
theorem AnyZU.ap_abides (ρ:Ren) (w0:World) (fn:FuncId) (sv:Value) (Bs l D B:Nat) (hB:w0.heap.size≤B):AbidesFrom B (AnyZU.ApAt ρ w0 fn sv Bs l D):=fun s W W' row h hg hrow=>by
  have hrow':∀ r,row=some r→∃ o:Obj,W.heap[r]?=some o∧o.isWalk=true:=fun r e=>(hrow r e).2
  obtain ⟨v,hv,hr,hn⟩:=h.box
  exact ⟨⟨v,(grownBy_keeps hg hrow' hv rfl).trans hv,ownsRow_abides_a hr hg hrow',hn⟩,(grownBy_keeps hg hrow' h.L rfl).trans h.L,(grownBy_keeps hg hrow' h.K rfl).trans h.K,
    h.below.grown hg h.below.size (fun k e=>Nat.le_trans hB (hrow k e).1)⟩
theorem AnyZU.apYield (L:SlZ32.n11 P ρ) (F:Fence) (m:Nat) (w0:World) (fn:FuncId) (hfn:F.fn fn) (sv:Value) (Bs l D:Nat) (hBl:Bs≠l) (hDl:D≠l) (hDB:D≠Bs) (h0B:w0.heap.size≤Bs) (h0l:w0.heap.size≤l)
    (N:Nat) (hN:N≤maxLen) (hNb:N * 4≤140737488355328) (ss:List Int) (x:Int) (W:World) (h:AnyZU.ApAt ρ w0 fn sv Bs l D ss W) (hlen:ss.length < N) :
    YieldAt F m P l #[encU x] W fun e W'=>e=.returned (.bool true)∧AnyZU.ApAt ρ w0 fn sv Bs l D (ss ++ [x]) W'∧KeepsWalks W W':=by
  have mixed:=L.mixed;have t0:=L.t0;have a0:=L.a0;have z0:=L.z0;have v0:=L.v0;have t24:=L.t24;have a24:=L.a24;have z24:=L.z24;have v24:=L.v24;have t26:=L.t26;have a26:=L.a26;have z26:=L.z26;have v26:=L.v26;have t28:=L.t28;have a28:=L.a28;have z28:=L.z28;have v28:=L.v28
  have hne:ρ.t 24≠ρ.t 26:=fun e=>by have h:=L.t24;rw [e,L.t26] at h;cases h
  have u0:=run_underlying L.t0;have u24:=run_underlying L.t24;have u26:=run_underlying L.t26;have u28:=run_underlying L.t28
  obtain ⟨i0,hi,hz0,hz1,hz2⟩:=info_parts L.i26
  obtain ⟨v,hv,hrow,_⟩:=h.box
  refine ⟨fn,#[.slice none 0 0,sv,.pointer (some ⟨Bs,0,none⟩),undef,.slice none 0 0,undef,sv,encU x,undef,undef,undef,undef,undef],AnyZU.apAssign ρ,AnyZU.apBody ρ,by simpa [AnyZU.apRec] using run_yield (P:=P) (args:=#[encU x]) h.L rfl,roundIn_of_wpIn hfn ?_⟩
  have hl:l < W.heap.size:=(Array.getElem?_eq_some_iff.1 h.L).1
  have hbr:=run_beginRound (P:=P) h.L rfl
  obtain ⟨W2,hW2⟩:∃ W2,W.putObj l (.loop { AnyZU.apRec ρ fn sv Bs D .ready none with state:=.busy })=W2:=⟨_,rfl⟩
  rw [hW2] at hbr
  have hg2:W.grownBy W2 (some l):=by rw [← hW2];exact grownBy_putObj_a _ _ _
  have hk2:KeepsWalks W W2:=by rw [← hW2];exact KeepsWalks.putObj _ h.L rfl
  have hv2:W2.heap[Bs]?=some (.cells #[v] (ρ.t 24) (0,0)):=by rw [← hW2];exact (World.putObj_heap_other hBl).trans hv
  have hK2:W2.heap[D]?=some (.deferred (some [])):=by rw [← hW2];exact (World.putObj_heap_other hDl).trans h.K
  have hL2:W2.heap[l]?=some (.loop { AnyZU.apRec ρ fn sv Bs D .ready none with state:=.busy }):=by rw [← hW2];exact World.putObj_heap_same hl
  have hrow2:W2.ownsRow w0.heap.size (ρ.t 26) 1 v ss.length (ss.map encU):=hrow.kept hg2 (ownsRow_ne_a hrow h.L (fun cur e=>by first | cases e | exact hne (Obj.cells.inj e).2.1))
  have hb2:Below w0.heap.size w0 W2:=h.below.grown hg2 h.below.size (fun k e=>by cases e;exact h0l)
  obtain ⟨hc2,hf2⟩:=cell_of_box_a hv2
  have hBlt:Bs < W2.heap.size:=(Array.getElem?_eq_some_iff.1 hv2).1
  have hl2:l < W2.heap.size:=(Array.getElem?_eq_some_iff.1 hL2).1
  have hDlt:D < W2.heap.size:=(Array.getElem?_eq_some_iff.1 hK2).1
  have ne_of:∀ {j:Nat} {o:Obj},W2.heap[j]?=some o→(∀ cur,o≠.cells cur (ρ.t 26) (0,0))→some j≠v.ownBlock:=fun hj hno=>by
    rcases ownsRow_ne_a hrow2 hj hno with e | e
    · rw [e];simp
    · exact fun e'=>e e'.symm
  clear hW2
  unfold AnyZU.apAssign
  gi_wp2_with gi_round_op_a
  unfold AnyZU.apBody
  gi_wp2_with (first
    | (gi_at_builtin;refine wpListIn_append_own _ rfl _ _ (ρ.t 24) rfl w0.heap.size (ρ.t 26) i0 (.int .u32 0) 1 4 L.t24 hi hz0 hz1 hz2 rfl (by decide) _ _ _ rfl (hrow2.alloc _) ⟨W2.heap.size,0,none⟩ 1 1 [encU x] rfl rfl (cell_one_new _ _ _) (by simp [Value.oneCell',encU]) (by omega) (by omega) (by have:=hb2.size;simp <;> omega) ?_;intro v' w3 hown' hg3 hnil3
       have hv3:w3.heap[Bs]?=some (.cells #[v] (ρ.t 24) (0,0)):=(hg3.block Bs (by simp <;> omega) (ne_of hv2 (fun cur e=>by first | cases e | exact hne (Obj.cells.inj e).2.1))).trans ((Below.heap_alloc _ _ Bs hBlt).trans hv2)
       obtain ⟨hc3,hf3⟩:=cell_of_box_a hv3
       obtain ⟨g',cap',cur',rfl,hbase',hgb',hr1,hr2,hr3,hr4⟩:∃ g' cap' cur',v'=.slice (some ⟨g',0,none⟩) (ss.length+1) cap'∧w0.heap.size≤g'∧w3.heap[g']?=some (.cells cur' (ρ.t 26) (0,0))∧ss.length+1≤cap'∧cap'≤maxLen∧cur'.size=cap' * 1∧cur'.toList.take ((ss.length+1) * 1)=ss.map encU ++ [encU x]:=by
         rcases hown'.2 with ⟨_,h0⟩ | h'
         · exact absurd h0 (by omega)
         · exact h'
       go_frame)
    | gi_round_op_a)
  have hg3':(W2.alloc (.cells #[encU x] (ρ.t 26))).grownBy w3 v.ownBlock:=hg3
  have hL3:w3.heap[l]?=some (.loop { AnyZU.apRec ρ fn sv Bs D .ready none with state:=.busy }):=(hg3'.block l (by simp <;> omega) (ne_of hL2 (fun cur e=>by first | cases e | exact hne (Obj.cells.inj e).2.1))).trans ((Below.heap_alloc _ _ l hl2).trans hL2)
  have hK3:w3.heap[D]?=some (.deferred (some [])):=(hg3'.block D (by simp <;> omega) (ne_of hK2 (fun cur e=>by first | cases e | exact hne (Obj.cells.inj e).2.1))).trans ((Below.heap_alloc _ _ D hDlt).trans hK2)
  obtain ⟨w4,hw4⟩:∃ w4,w3.setCell ⟨Bs,0,none⟩ (.slice (some ⟨g',0,none⟩) (ss.length+1) cap')=w4:=⟨_,rfl⟩
  rw [hw4]
  have hg4:w3.grownBy w4 (some Bs):=by rw [← hw4];exact grownBy_setCell0_a _ _ _
  have hv4:w4.heap[Bs]?=some (.cells #[.slice (some ⟨g',0,none⟩) (ss.length+1) cap'] (ρ.t 24) (0,0)):=by rw [← hw4];exact heap_setCell_box_a _ hv3
  have hL4:w4.heap[l]?=some (.loop { AnyZU.apRec ρ fn sv Bs D .ready none with state:=.busy }):=(hg4.block l (Array.getElem?_eq_some_iff.1 hL3).1 (fun e=>hBl (by cases e;rfl))).trans hL3
  have hK4:w4.heap[D]?=some (.deferred (some [])):=(hg4.block D (Array.getElem?_eq_some_iff.1 hK3).1 (fun e=>hDB (by cases e;rfl))).trans hK3
  have hrow4:=hown'.kept hg4 (ownsRow_ne_a hown' hv3 (fun cur e=>by first | cases e | exact hne (Obj.cells.inj e).2.1))
  have hl4:l < w4.heap.size:=(Array.getElem?_eq_some_iff.1 hL4).1
  have hb3:Below w0.heap.size w0 w3:=(hb2.alloc hb2.size _).grown hg3' (by have:=hb2.size;simp <;> omega) (fun k e=>(hrow2.lt k e).1)
  have hb4:Below w0.heap.size w0 w4:=hb3.grown hg4 hb3.size (fun k e=>by cases e;exact h0B)
  have hk4:KeepsWalks W w4:=((hk2.trans (KeepsWalks.alloc _ _)).trans (KeepsWalks.of_grownBy hg3' (ownsRow_not_walk_a (hrow2.alloc _)))).trans (by rw [← hw4];exact KeepsWalks.setCell _ _ _)
  clear hw4
  refine ⟨_,_,run_endRound none hL4,rfl,⟨⟨_,(World.putObj_heap_other hBl).trans hv4,?_,by simp⟩,World.putObj_heap_same hl4,(World.putObj_heap_other hDl).trans hK4,hb4.grown (grownBy_putObj_a _ _ _) hb4.size (fun k e=>by cases e;exact h0l)⟩,hk4.trans (KeepsWalks.putObj _ hL4 rfl)⟩
  have:=hrow4.kept (grownBy_putObj_a w4 l (.loop { { AnyZU.apRec ρ fn sv Bs D .ready none with state:=.busy } with state:=if (none:Option Code).isNone then .ready else .done,pending:=none })) (ownsRow_ne_a hrow4 hL4 (fun cur e=>by first | cases e | exact hne (Obj.cells.inj e).2.1))
  simpa using this
theorem AnyZU.appendSeq_in (L:SlZ32.n11 P ρ) (F:Fence) (n:Nat) (h11:F.fn (ρ.f 11)) (hro:F.round=none) (hn:2≤n) (g:Nat) (lb:Array Value) (hFg:F.fn g) (eg:∀ args w,(callFunc g args).run P w=.ok (.enter g args) w)
    (S:List Int→Prop) (N:Nat) (hN:N≤maxLen) (hNb:N * 4≤140737488355328) (w:World) (hseq:SeqGives F (n - 1) P g lb encU S N w) :
    CallsIn F n P (ρ.f 11) #[.slice none 0 0,.func (.func g) #[] lb] w fun e w'=>∃ (v:Value) (ss:List Int),e=.returned v∧S ss∧w'.ownsRow w.heap.size (ρ.t 26) 1 v ss.length (ss.map encU)∧(v=.slice none 0 0↔ss=[])∧Below w.heap.size w w':=by
  have h1:1≤n:=by omega
  have mixed:=L.mixed;have t0:=L.t0;have a0:=L.a0;have z0:=L.z0;have v0:=L.v0;have t24:=L.t24;have a24:=L.a24;have z24:=L.z24;have v24:=L.v24;have t26:=L.t26;have a26:=L.a26;have z26:=L.z26;have v26:=L.v26;have t28:=L.t28;have a28:=L.a28;have z28:=L.z28;have v28:=L.v28
  have hne:ρ.t 24≠ρ.t 26:=fun e=>by have h:=L.t24;rw [e,L.t26] at h;cases h
  have u0:=run_underlying L.t0;have u24:=run_underlying L.t24;have u26:=run_underlying L.t26;have u28:=run_underlying L.t28
  obtain ⟨_,_,FG⟩:=L.f11
  refine callsIn_of_wp_marks FG rfl h11 ?_ hro
  simp only [SlBodyZ.n11_ntmps ρ,List.size_toArray,List.length_cons,List.length_nil,Nat.reduceAdd,Nat.reduceSub,Array.replicate_succ,Array.replicate_zero,List.push_toArray,List.append_toArray,List.nil_append,List.cons_append]
  gi_wp2
  refine wpIn_rangeFunc ?_
  intro fn hfn
  rw [hro]
  obtain ⟨W0,hW0⟩:∃ W0,w.alloc (.cells #[.slice none 0 0] (ρ.t 24))=W0:=⟨_,rfl⟩
  have hs0:W0.heap.size=w.heap.size+1:=by rw [← hW0];simp
  have hv0:W0.heap[w.heap.size]?=some (.cells #[.slice none 0 0] (ρ.t 24) (0,0)):=by rw [← hW0];exact World.alloc_heap_new w _
  have hb0:Below w.heap.size w W0:=by rw [← hW0];exact (Below.refl _ w).alloc (Nat.le_refl _) _
  rw [hW0]
  obtain ⟨W1,hW1⟩:∃ W1,(W0.alloc (.deferred (some []))).alloc (.loop (AnyZU.apRec ρ fn (.func (.func g) #[] lb) w.heap.size W0.heap.size .ready none))=W1:=⟨_,rfl⟩
  have hold:∀ k,k < W0.heap.size→W1.heap[k]?=W0.heap[k]?:=fun k hk=>by
    rw [← hW1];exact (Below.heap_alloc _ _ k (by simp <;> omega)).trans (Below.heap_alloc _ _ k hk)
  have hb1:Below w.heap.size w W1:=by rw [← hW1];exact (hb0.alloc hb0.size _).alloc (by have:=hb0.size;simp <;> omega) _
  have hs1:W1.heap.size=W0.heap.size+2:=by rw [← hW1];simp
  have hM:AnyZU.ApAt ρ w fn (.func (.func g) #[] lb) w.heap.size (W0.heap.size+1) W0.heap.size [] W1 :=
    ⟨⟨_,(hold w.heap.size (by omega)).trans hv0,⟨rfl,.inl ⟨rfl,rfl⟩⟩,by simp⟩,
     by rw [← hW1];have:=World.alloc_heap_new (W0.alloc (.deferred (some []))) (.loop (AnyZU.apRec ρ fn (.func (.func g) #[] lb) w.heap.size W0.heap.size .ready none));rwa [World.size_alloc] at this,
     by rw [← hW1];exact (Below.heap_alloc _ _ _ (by simp)).trans (World.alloc_heap_new W0 _),hb1⟩
  refine ⟨W0.heap.size+1,[{ target:=.collected W0.heap.size,args:=#[] }],W1,{ target:=.fn (.func g) lb,args:=#[.func (.yield (W0.heap.size+1)) #[] #[]] },W1,g,
    #[.func (.yield (W0.heap.size+1)) #[] #[]] ++ lb,W1,?_,?_,?_,?_,fun _=>h1,?_⟩
  · rw [← hW1];exact run_enterLoop_outer _ _ _ _ _
  · simp [resolve,go_sem]
  · intro f' hf';simp [Target.leads] at hf';subst hf';exact hFg
  · simp [invoke,go_sem,eg]
  · refine (hseq (W0.heap.size+1) (AnyZU.ApAt ρ w fn (.func (.func g) #[] lb) w.heap.size (W0.heap.size+1) W0.heap.size) W1 hb1 (AnyZU.ap_abides ρ _ _ _ _ _ _ _ hb1.size)
      (fun pre x W hJ hl=>AnyZU.apYield { L with } F (n - 1 - 1) w fn hfn _ w.heap.size (W0.heap.size+1) W0.heap.size (by omega) (by omega) (by omega) (Nat.le_refl _) (by omega) N hN hNb pre x W hJ hl) hM).mono ?_
    rintro e W2 ⟨⟨v0,rfl⟩,ss,hS,h2⟩
    obtain ⟨v,hv,hrow,hnil⟩:=h2.box
    have hend:=run_endLoop (P:=P) h2.L (by simp [AnyZU.apRec])
    obtain ⟨W3,hW3⟩:∃ W3,W2.putObj (W0.heap.size+1) (.loop { AnyZU.apRec ρ fn (.func (.func g) #[] lb) w.heap.size W0.heap.size .ready none with state:=.exhausted })=W3:=⟨_,rfl⟩
    rw [hW3] at hend
    have hg3:W2.grownBy W3 (some (W0.heap.size+1)):=by rw [← hW3];exact grownBy_putObj_a _ _ _
    have hv3:W3.heap[w.heap.size]?=some (.cells #[v] (ρ.t 24) (0,0)):=by rw [← hW3];exact (World.putObj_heap_other (by omega)).trans hv
    have hK3:W3.heap[W0.heap.size]?=some (.deferred (some [])):=by rw [← hW3];exact (World.putObj_heap_other (by omega)).trans h2.K
    have hrow3:=hrow.kept hg3 (ownsRow_ne_a hrow h2.L (fun cur e=>by first | cases e | exact hne (Obj.cells.inj e).2.1))
    have hb3:Below w.heap.size w W3:=h2.below.grown hg3 h2.below.size (fun k e=>by cases e;omega)
    obtain ⟨hc3,hf3⟩:=cell_of_box_a hv3
    clear hW3
    refine ⟨none,W3,hend,?_⟩
    gi_wp2
    rw [← hs0]
    refine ⟨by simp,.inl ⟨_,_,rfl,run_takeDeferred hK3,?_⟩⟩
    exact ⟨_,results_tmp rfl _ _ _,v,ss,rfl,hS,hrow3.kept (grownBy_putObj_a _ _ _) (ownsRow_ne_a hrow3 hK3 (fun cur e=>by first | cases e | exact hne (Obj.cells.inj e).2.1)),hnil,hb3.grown (grownBy_putObj_a _ _ _) hb3.size (fun k e=>by cases e;omega)⟩
theorem AnyZU.collect_in (L:SlZ32.n8 P ρ) (F:Fence) (n:Nat) (h8:F.fn (ρ.f 8)) (h11:F.fn (ρ.f 11)) (hro:F.round=none) (hn:3≤n) (g:Nat) (lb:Array Value) (hFg:F.fn g) (eg:∀ args w,(callFunc g args).run P w=.ok (.enter g args) w)
    (S:List Int→Prop) (N:Nat) (hN:N≤maxLen) (hNb:N * 4≤140737488355328) (w:World) (hseq:SeqGives F (n - 1 - 1) P g lb encU S N w) :
    CallsIn F n P (ρ.f 8) #[.func (.func g) #[] lb] w fun e w'=>∃ (v:Value) (ss:List Int),e=.returned v∧S ss∧w'.ownsRow w.heap.size (ρ.t 26) 1 v ss.length (ss.map encU)∧(v=.slice none 0 0↔ss=[])∧Below w.heap.size w w':=by
  have h1:1≤n:=by omega
  have e11:∀ args w,(callFunc (ρ.f 11) args).run P w=.ok (.enter (ρ.f 11) args) w:=L.f11.enters rfl
  have mixed:=L.mixed;have t0:=L.t0;have a0:=L.a0;have z0:=L.z0;have v0:=L.v0;have t24:=L.t24;have a24:=L.a24;have z24:=L.z24;have v24:=L.v24;have t26:=L.t26;have a26:=L.a26;have z26:=L.z26;have v26:=L.v26;have t28:=L.t28;have a28:=L.a28;have z28:=L.z28;have v28:=L.v28
  have u0:=run_underlying L.t0;have u24:=run_underlying L.t24;have u26:=run_underlying L.t26;have u28:=run_underlying L.t28
  obtain ⟨_,_,FG⟩:=L.f8
  refine callsIn_of_wp FG rfl h8 ?_ hro
  simp only [SlBodyZ.n8_ntmps ρ,List.size_toArray,List.length_cons,List.length_nil,Nat.reduceAdd,Nat.reduceSub,Array.replicate_succ,Array.replicate_zero,List.push_toArray,List.append_toArray,List.nil_append,List.cons_append]
  gi_wp2_with (gi_at_fn (ρ.f 11);refine (AnyZU.appendSeq_in { L with } F (n - 1) h11 hro (by omega) g lb hFg eg S N hN hNb _ hseq).mono ?_;rintro e w' ⟨v,ss,rfl,hS,hrow,hnil,hb⟩)
  go_ret
  exact ⟨v,ss,rfl,hS,hrow,hnil,hb⟩
end Go.Proofs.YtiomgckodmecbaaGreat
namespace Go.Proofs.YtiomgckodmecbaaGreat
open Go.RowKit Go.Maps Go.Sort Go.Shelf
variable {P:Program} {ρ:Ren}
section
open Go.ChangeShapes Go.WideShapes
theorem holds_of_block_u {w:World} {g:Nat} {cur:Array Value} {e:TypeId} {ss:List Int} (hb:w.heap[g]?=some (.cells cur e (0,0))) (ht:cur.toList.take ss.length=ss.map encU):Holds encU w g 0 ss.toArray:=by
 intro j hj
 have hj':j < ss.length:=by simpa using hj
 refine ⟨?_,by simp [World.frozen?,hb]⟩
 have h1:(cur.toList.take ss.length)[j]?=(ss.map encU)[j]?:=by rw [ht]
 rw [List.getElem?_take_of_lt hj'] at h1
 simp only [World.cell?,hb,Nat.zero_add]
 simp only [Option.isSome_none,Bool.false_eq_true,if_false]
 rw [← Array.getElem?_toList,h1]
 simp [hj']
theorem heap_sorted_u {w:World} {g n:Nat} {os:Array Obj} {cur:Array Value} {e:TypeId} {fr:Nat × Nat} (d:Array Int) (hb:w.heap[g]?=some (.cells cur e fr)) :
  (grow (putRow encU (Sort.ahead w n) g 0 d) os).heap[g]?=some (.cells (putCells encU 0 d cur) e fr):=by
 have hg:g < w.heap.size:=(Array.getElem?_eq_some_iff.1 hb).1
 rw [heap_grow_old _ _ (by simpa using hg)]
 simp [putRow,mapBlock,Sort.ahead,Array.getElem?_modify,hb,onCells]
theorem grownBy_sorted_u {w:World} {g n:Nat} {os:Array Obj} (d:Array Int):w.grownBy (grow (putRow encU (Sort.ahead w n) g 0 d) os) (some g):=by
 refine ⟨rfl,rfl,rfl,by simp,fun k hk hne=>?_⟩
 rw [heap_grow_old _ _ (by simpa using hk)]
 have:g≠k:=fun e=>hne (by rw [e])
 simp [putRow,mapBlock,Sort.ahead,Array.getElem?_modify,this]
theorem take_putCells_u (cur:Array Value) (ts:List Int) (h:ts.length≤cur.size):(putCells encU 0 ts.toArray cur).toList.take ts.length=ts.map encU:=by
 apply List.ext_getElem?
 intro j
 by_cases hj:j < ts.length
 ·rw [List.getElem?_take_of_lt hj,Array.getElem?_toList]
  simp [putCells,hj,show j < cur.size by omega]
 ·rw [List.getElem?_take_eq_none (by omega),List.getElem?_eq_none (by simp <;> omega)]
theorem ownsRow_sorted_u {w:World} {base g cap n:Nat} {e:TypeId} {os:Array Obj} {cur:Array Value} {ss ts:List Int} (hl:ts.length=ss.length) (hbase:base≤g) (hb:w.heap[g]?=some (.cells cur e (0,0)))
  (h1:ss.length≤cap) (h2:cap≤maxLen) (h3:cur.size=cap * 1) :
  (grow (putRow encU (Sort.ahead w n) g 0 ts.toArray) os).ownsRow base e 1 (.slice (some ⟨g,0,none⟩) ss.length cap) ss.length (ts.map encU) :=
 ⟨by simp [hl],.inr ⟨g,cap,_,rfl,hbase,heap_sorted_u _ hb,h1,h2,by simp [putCells,h3],by rw [Nat.mul_one,← hl];exact take_putCells_u cur ts (by omega)⟩⟩
end
def AnyZU.SortsIn (P:Program) (ρ:Ren) (F:Fence) (m:Nat):Prop :=
 (∀ (blk off cap:Nat) (ss:List Int) (W:World),Holds encU W blk off ss.toArray→blk < W.heap.size→ss.length < 4611686018427387904 →
  CallsIn F m P (ρ.f 9) #[.slice (some ⟨blk,off,none⟩) ss.length cap] W fun e w'=>e=.returned (.tuple #[])∧∃ k os,w'=grow (putRow encU (Sort.ahead W k) blk off (ss.mergeSort fun x y=>decide (x≤y)).toArray) os) ∧
 (∀ (p:Option Addr) (cap:Nat) (W:World),CallsIn F m P (ρ.f 9) #[.slice p 0 cap] W fun e w'=>e=.returned (.tuple #[])∧w'=W)
theorem AnyZU.sorted_in (L:SlZ32.n6 P ρ) (F:Fence) (n:Nat) (h6:F.fn (ρ.f 6)) (h8:F.fn (ρ.f 8)) (h9:F.fn (ρ.f 9)) (h11:F.fn (ρ.f 11)) (hro:F.round=none) (hn:4≤n) (hsort:AnyZU.SortsIn P ρ F (n - 1)) (e9:∀ args w,(callFunc (ρ.f 9) args).run P w=.ok (.enter (ρ.f 9) args) w) (g:Nat) (lb:Array Value) (hFg:F.fn g) (eg:∀ args w,(callFunc g args).run P w=.ok (.enter g args) w)
  (S:List Int→Prop) (N:Nat) (hN:N≤maxLen) (hNb:N * 4≤140737488355328) (w:World) (hseq:SeqGives F (n - 1 - 1 - 1) P g lb encU S N w) :
  CallsIn F n P (ρ.f 6) #[.func (.func g) #[] lb] w fun e w'=>∃ (v:Value) (ss:List Int),e=.returned v∧S ss ∧
   w'.ownsRow w.heap.size (ρ.t 26) 1 v ss.length ((ss.mergeSort (fun x y=>decide (x≤y))).map encU)∧(v=.slice none 0 0↔ss=[])∧Below w.heap.size w w':=by
 have h1:1≤n:=by omega
 have e8:∀ args w,(callFunc (ρ.f 8) args).run P w=.ok (.enter (ρ.f 8) args) w:=L.f8.enters rfl
 have mixed:=L.mixed;have t0:=L.t0;have a0:=L.a0;have z0:=L.z0;have v0:=L.v0;have t24:=L.t24;have a24:=L.a24;have z24:=L.z24;have v24:=L.v24;have t26:=L.t26;have a26:=L.a26;have z26:=L.z26;have v26:=L.v26;have t28:=L.t28;have a28:=L.a28;have z28:=L.z28;have v28:=L.v28
 have u0:=run_underlying L.t0;have u24:=run_underlying L.t24;have u26:=run_underlying L.t26;have u28:=run_underlying L.t28
 obtain ⟨_,_,FG⟩:=L.f6
 refine callsIn_of_wp FG rfl h6 ?_ hro
 simp only [SlBodyZ.n6_ntmps ρ,List.size_toArray,List.length_cons,List.length_nil,Nat.reduceAdd,Nat.reduceSub,Array.replicate_succ,Array.replicate_zero,List.push_toArray,List.append_toArray,List.nil_append,List.cons_append]
 gi_wp2_with (gi_at_fn (ρ.f 8);refine (AnyZU.collect_in { L with } F (n - 1) h8 h11 hro (by omega) g lb hFg eg _ N hN hNb _ hseq.bounded).mono ?_;rintro e W ⟨v,ss,rfl,⟨hS,hlen⟩,hrow,hnil,hb⟩)
 rcases hrow.2 with ⟨rfl,hz⟩ | ⟨gb,cap,cur,rfl,hbase,hgb,r1,r2,r3,r4⟩
 ·
  have hss:ss=[]:=List.eq_nil_of_length_eq_zero hz
  subst hss
  gi_wp2_with (gi_at_fn (ρ.f 9);refine (hsort.2 none 0 W).mono ?_;rintro e w' ⟨rfl,rfl⟩)
  go_ret
  exact ⟨.slice none 0 0,[],rfl,hS,by simpa using hrow,by simp,hb⟩
 ·have hH:Holds encU W gb 0 ss.toArray:=holds_of_block_u hgb (by simpa using r4)
  have hgl:gb < W.heap.size:=(Array.getElem?_eq_some_iff.1 hgb).1
  have hsz:ss.length < 4611686018427387904:=by omega
  have cS:=hsort.1 gb 0 cap ss W hH hgl hsz
  gi_wp2_with (gi_at_fn (ρ.f 9);refine cS.mono ?_;rintro e w' ⟨rfl,nn,os,rfl⟩)
  go_ret
  exact ⟨_,ss,rfl,hS,ownsRow_sorted_u (by simp) hbase hgb r1 r2 r3,hnil,hb.grown (grownBy_sorted_u _) hb.size (fun j hj=>by cases hj;exact hbase)⟩
end Go.Proofs.YtiomgckodmecbaaGreat
namespace Go.Proofs.YtiomgckodmecbaaGreat
open Go.Shelf
variable {P:Program} {ρ:Ren}
theorem AnySU.cmp_isNaN_intIn (Ly:SlW32.n35 P ρ) (D:Nat) (x:Int) (w:World):CallsIn (Fence.list [ρ.f 5,ρ.f 7,ρ.f 8,ρ.f 10,ρ.f 11,ρ.f 12,ρ.f 13,ρ.f 14,ρ.f 15,ρ.f 16,ρ.f 17,ρ.f 18,ρ.f 20,ρ.f 30,ρ.f 31,ρ.f 32,ρ.f 33,ρ.f 34,ρ.f 35,ρ.f 40] (some D)) 0 P (ρ.f 35) #[.int .u32 x] w fun e w'=>e=.returned (.bool false)∧w'=w:=by
 have mixed:=Ly.mixed
 have t4:=Ly.t4;have a4:=Ly.a4;have z4:=Ly.z4;have v4:=Ly.v4;have t25:=Ly.t25;have a25:=Ly.a25;have z25:=Ly.z25;have v25:=Ly.v25
 obtain ⟨_,_,FG⟩:=Ly.f35
 gi_enter FG,SlBodyM.n35_ntmps ρ
 gi_wp2
 go_ret
 exact ⟨by simp,rfl⟩
theorem AnySU.cmp_Less_intIn (Ly:SlW32.n16 P ρ) (D:Nat) (x y:Int) (w:World):CallsIn (Fence.list [ρ.f 5,ρ.f 7,ρ.f 8,ρ.f 10,ρ.f 11,ρ.f 12,ρ.f 13,ρ.f 14,ρ.f 15,ρ.f 16,ρ.f 17,ρ.f 18,ρ.f 20,ρ.f 30,ρ.f 31,ρ.f 32,ρ.f 33,ρ.f 34,ρ.f 35,ρ.f 40] (some D)) 1 P (ρ.f 16) #[.int .u32 x,.int .u32 y] w fun e w'=>e=.returned (.bool (Sort.ltInt x y))∧w'=w:=by
 have mixed:=Ly.mixed
 have t4:=Ly.t4;have a4:=Ly.a4;have z4:=Ly.z4;have v4:=Ly.v4;have t25:=Ly.t25;have a25:=Ly.a25;have z25:=Ly.z25;have v25:=Ly.v25
 have e215:∀ args w,(callFunc (ρ.f 35) args).run P w=.ok (.enter (ρ.f 35) args) w:=Ly.f35.enters rfl
 obtain ⟨_,_,FG⟩:=Ly.f16
 gi_enter FG,SlBodyM.n16_ntmps ρ
 gi_wp2_with (gi_at_fn (ρ.f 35);refine (AnySU.cmp_isNaN_intIn { Ly with } D _ _).mono ?_;rintro e w' ⟨rfl,rfl⟩)
 go_ret
 exact ⟨rfl,rfl⟩
end Go.Proofs.YtiomgckodmecbaaGreat
namespace Go.Proofs.YtiomgckodmecbaaGreat
open Go.Shelf
variable {P:Program} {ρ:Ren}
open Go.RowKit Go.Sort
section
variable {α:Type} [Inhabited α] (lt:α→α→Bool)
end
section
variable {α:Type} [Inhabited α] (enc:α→Value)
end
theorem AnySU.insertionSort_intIn (Ly:SlW32.n10 P ρ) (D:Nat) (blk off cap a b:Nat) (d:Array Int) (w:World) (hH:Holds (Value.int .u32) w blk off d) (hab:a≤b) (hb:b≤d.size) (hsz:d.size < 4611686018427387904) :
  CallsIn (Fence.list [ρ.f 5,ρ.f 7,ρ.f 8,ρ.f 10,ρ.f 11,ρ.f 12,ρ.f 13,ρ.f 14,ρ.f 15,ρ.f 16,ρ.f 17,ρ.f 18,ρ.f 20,ρ.f 30,ρ.f 31,ρ.f 32,ρ.f 33,ρ.f 34,ρ.f 35,ρ.f 40] (some D)) 2 P (ρ.f 10) #[.slice (some ⟨blk,off,none⟩) d.size cap,.int .i64 a,.int .i64 b] w fun e w' =>
   e=.returned (.tuple #[])∧∃ n,w'=putRow (Value.int .u32) (Sort.ahead w n) blk off (Sort.insertionSort ltInt d a b):=by
 have mixed:=Ly.mixed
 have t0:=Ly.t0;have a0:=Ly.a0;have z0:=Ly.z0;have v0:=Ly.v0;have t3:=Ly.t3;have a3:=Ly.a3;have z3:=Ly.z3;have v3:=Ly.v3;have t4:=Ly.t4;have a4:=Ly.a4;have z4:=Ly.z4;have v4:=Ly.v4;have t22:=Ly.t22;have a22:=Ly.a22;have z22:=Ly.z22;have v22:=Ly.v22;have t25:=Ly.t25;have a25:=Ly.a25;have z25:=Ly.z25;have v25:=Ly.v25
 have e216:∀ args w,(callFunc (ρ.f 16) args).run P w=.ok (.enter (ρ.f 16) args) w:=Ly.f16.enters rfl
 obtain ⟨_,_,FG⟩:=Ly.f10
 gi_enter FG,SlBodyM.n10_ntmps ρ
 gi_wp2
 gi_loopw [6] (fun vi wr=>∃ (i n:Nat) (dk:Array Int),vi=.int .i64 i∧a < i∧i≤b+1∧dk.size=d.size∧wr=putRow (Value.int .u32) (Sort.ahead w n) blk off dk ∧
   insOuter ltInt a b i dk=insOuter ltInt a b (a+1) d) (fun vi _=>b+1 - (intOf vi).toNat)
 case atStart=>exact ⟨a+1,0,d,by go_num,by omega,by omega,rfl,(putRow_self _ _ _ _ _ hH).symm,rfl⟩
 case round =>
  obtain ⟨i,n,dk,rfl,hai,hib,hsk,hwr,hO⟩:=hrel
  have HO:Hid (insOuter ltInt a b i dk=insOuter ltInt a b (a+1) d):=hO
  clear hO
  gi_wp2
  ·
   gi_loopw [7] (fun vj wr2=>∃ (j m:Nat) (dj:Array Int),vj=.int .i64 j∧a≤j∧j≤i∧dj.size=d.size∧wr2=putRow (Value.int .u32) (Sort.ahead w m) blk off dj ∧
     insInner ltInt a j dj=insInner ltInt a i dk) (fun vj _=>(intOf vj).toNat)
   case atStart=>exact ⟨i,n,dk,rfl,by omega,Nat.le_refl _,hsk,rfl,rfl⟩
   case round =>
    obtain ⟨j,m,dj,rfl,haj,hji,hsj,hw2,hI⟩:=hrel
    have hlt:i < b:=by assumption
    obtain ⟨G,hG⟩:∃ G:Nat→Int,∀ t,G t=dj[t]!:=⟨fun t=>dj[t]!,fun _=>rfl⟩
    have hcw:∀ t,t < d.size→wr.cell? ⟨blk,off+t,none⟩=some (.int .u32 (G t)):=fun t ht=>by
     rw [hw2,hG];exact cell?_putRow _ _ _ _ d dj (holds_ahead _ _ _ _ _ _ hH) hsj t (by omega)
    have hfw:∀ t,t < d.size→wr.frozen? ⟨blk,off+t,none⟩=false:=fun t ht=>by
     rw [hw2,frozen?_putRow];exact ((holds_ahead _ _ m _ _ _ hH) t ht).2
    have HW:Hid (wr=putRow (Value.int .u32) (Sort.ahead w m) blk off dj):=hw2
    have HG:Hid (∀ t,G t=dj[t]!):=hG
    have HI:Hid (insInner ltInt a j dj=insInner ltInt a i dk):=hI
    clear hw2 hG hI hH
    have out:(j≤a∨ltInt dj[j]! dj[j - 1]! = false)→∀ q,∃ i' n' dk',Value.int .i64 ((i:Int)+1)=.int .i64 (i':Nat)∧a < i'∧i'≤b+1∧dk'.size=d.size ∧
      wr.drewN q=putRow (Value.int .u32) (Sort.ahead w n') blk off dk'∧insOuter ltInt a b i' dk'=insOuter ltInt a b (a+1) d:=fun hs q =>
     ⟨i+1,m+q,dj,by go_num,by omega,by omega,hsj,by rw [HW.out];exact putRow_drewN _ _ _ _ _ _ _,
      by rw [← HO.out,insOuter_go _ _ _ _ _ hlt,← HI.out,insInner_stop _ _ _ _ hs]⟩
    have OUT:Hid _:=out
    clear out
    gi_wp2
    by_cases hja:a < j
    ·gi_big_quiet_th_o (first | (gi_at_fn (ρ.f 16);refine CallsIn.quiet_of_same (AnySU.cmp_Less_intIn { Ly with } D _ _ _)))
     gi_wp2
     ·
      have hl:ltInt (G j) (G (j - 1))=true:=by assumption
      gi_region_o
      all_goals gi_wp2
      go_roundw
      case rel =>
       refine ⟨j - 1,m+(nq+1),swp dj j (j - 1),by congr 1;omega,by omega,by omega,by rw [size_swp];exact hsj,?_,?_⟩
       ·rw [HW.out,HG.out,HG.out]
        exact swap_worldA _ w m (nq+1) blk off dj j (j - 1) (by omega) (by omega)
       ·rw [← HI.out,insInner_go ltInt a j dj hja (by rw [← HG.out,← HG.out];exact hl)]
      case measure=>simp [intOf] <;> omega
     ·
      have hl:ltInt (G j) (G (j - 1))=false:=by assumption
      go_roundw
      case rel=>exact OUT.out (Or.inr (by rw [← HG.out,← HG.out];exact hl)) nq
      case measure=>simp [intOf] <;> omega
    ·gi_big_quiet_th_o (first | (gi_at_fn (ρ.f 16);refine CallsIn.quiet_of_same (AnySU.cmp_Less_intIn { Ly with } D _ _ _)))
     gi_wp2
     go_roundw
     case rel=>exact OUT.out (Or.inl (by omega)) nq
     case measure=>simp [intOf] <;> omega
  ·
   have hge:¬ i < b:=by assumption
   go_end0
   exact ⟨rfl,n,by unfold Sort.insertionSort;rw [← HO.out,insOuter_stop _ _ _ _ _ hge]⟩
end Go.Proofs.YtiomgckodmecbaaGreat
namespace Go.Proofs.YtiomgckodmecbaaGreat
open Go.Shelf
variable {P:Program} {ρ:Ren}
open Go.RowKit Go.Sort
section
variable {α:Type} [Inhabited α] (lt:α→α→Bool)
end
section
variable {α:Type} [Inhabited α] (lt:α→α→Bool)
end
theorem AnySU.partialInsertionSort_intIn (Ly:SlW32.n15 P ρ) (D:Nat) (blk off cap a b:Nat) (d:Array Int) (w:World) (hH:Holds (Value.int .u32) w blk off d) (hab:a < b) (hb:b≤d.size) (hsz:d.size < 4611686018427387904) :
    CallsIn (Fence.list [ρ.f 5,ρ.f 7,ρ.f 8,ρ.f 10,ρ.f 11,ρ.f 12,ρ.f 13,ρ.f 14,ρ.f 15,ρ.f 16,ρ.f 17,ρ.f 18,ρ.f 20,ρ.f 30,ρ.f 31,ρ.f 32,ρ.f 33,ρ.f 34,ρ.f 35,ρ.f 40] (some D)) 2 P (ρ.f 15) #[.slice (some ⟨blk,off,none⟩) d.size cap,.int .i64 a,.int .i64 b] w fun e w' =>
      e=.returned (.bool (Sort.partialInsertionSort ltInt d a b).2)∧∃ n,w'=putRow (Value.int .u32) (Sort.ahead w n) blk off (Sort.partialInsertionSort ltInt d a b).1:=by
  have HH:Hid (Holds (Value.int .u32) w blk off d):=hH
  have HST:Hid (w=putRow (Value.int .u32) (Sort.ahead w 0) blk off d):=(putRow_self _ _ _ _ _ hH).symm
  clear hH
  have mixed:=Ly.mixed
  have t0:=Ly.t0;have a0:=Ly.a0;have z0:=Ly.z0;have v0:=Ly.v0;have t3:=Ly.t3;have a3:=Ly.a3;have z3:=Ly.z3;have v3:=Ly.v3;have t4:=Ly.t4;have a4:=Ly.a4;have z4:=Ly.z4;have v4:=Ly.v4;have t22:=Ly.t22;have a22:=Ly.a22;have z22:=Ly.z22;have v22:=Ly.v22;have t25:=Ly.t25;have a25:=Ly.a25;have z25:=Ly.z25;have v25:=Ly.v25
  have e216:∀ args w,(callFunc (ρ.f 16) args).run P w=.ok (.enter (ρ.f 16) args) w:=Ly.f16.enters rfl
  obtain ⟨_,_,FG⟩:=Ly.f15
  gi_enter FG,SlBodyM.n15_ntmps ρ
  gi_wp2
  gi_loopw [7,8] (fun vi vs wr=>∃ (i s n:Nat) (dk:Array Int),vi=.int .i64 i∧vs=.int .i64 s∧s≤5∧a < i∧i≤b∧dk.size=d.size∧wr=putRow (Value.int .u32) (Sort.ahead w n) blk off dk ∧
      partialIns ltInt a b (5 - s) i dk=partialIns ltInt a b 5 (a+1) d) (fun _ vs _=>5 - (intOf vs).toNat)
  case atStart=>exact ⟨a+1,0,0,d,by go_num,rfl,by omega,by omega,by omega,rfl,HST.out,rfl⟩
  case round =>
    obtain ⟨i,s,n,dk,rfl,rfl,hs5,hai,hib,hsk,hwr,hO⟩:=hrel
    have HO:Hid (partialIns ltInt a b (5 - s) i dk=partialIns ltInt a b 5 (a+1) d):=hO
    clear hO
    gi_wp2
    ·
      have hs:s < 5:=by omega
      gi_loopw [7] (fun vi wr2=>∃ (k m:Nat),vi=.int .i64 k∧i≤k∧k≤b∧wr2=putRow (Value.int .u32) (Sort.ahead w m) blk off dk∧scanSorted ltInt dk b k=scanSorted ltInt dk b i) (fun vi _=>b - (intOf vi).toNat)
      case atStart=>exact ⟨i,n,rfl,Nat.le_refl _,hib,rfl,rfl⟩
      case round =>
        obtain ⟨k,m,rfl,hik,hkb,hw2,hS⟩:=hrel
        obtain ⟨G,hG⟩:∃ G:Nat→Int,∀ t,G t=dk[t]!:=⟨fun t=>dk[t]!,fun _=>rfl⟩
        have hcw:∀ t,t < d.size→wr.cell? ⟨blk,off+t,none⟩=some (.int .u32 (G t)):=fun t ht=>by
          rw [hw2,hG];exact cell?_putRow _ _ _ _ d dk (holds_ahead _ _ _ _ _ _ HH.out) hsk t (by omega)
        have hfw:∀ t,t < d.size→wr.frozen? ⟨blk,off+t,none⟩=false:=fun t ht=>by
          rw [hw2,frozen?_putRow];exact ((holds_ahead _ _ m _ _ _ HH.out) t ht).2
        have HW:Hid (wr=putRow (Value.int .u32) (Sort.ahead w m) blk off dk):=hw2
        have HG:Hid (∀ t,G t=dk[t]!):=hG
        have HS:Hid (scanSorted ltInt dk b k=scanSorted ltInt dk b i):=hS
        clear hw2 hG hS
        gi_wp2
        by_cases hkb':k < b
        · gi_big_quiet_th_o (first | (gi_at_fn (ρ.f 16);refine CallsIn.quiet_of_same (AnySU.cmp_Less_intIn { Ly with } D _ _ _)))
          gi_wp2
          all_goals first
            | (at_end
               have hl:ltInt (G k) (G (k - 1))=false:=by
                 have h:(!ltInt (G k) (G (k - 1)))=true:=by assumption
                 simpa using h
               go_roundw
               case rel=>exact ⟨k+1,m+nq,by go_num,by omega,by omega,by rw [HW.out];exact putRow_drewN _ _ _ _ _ _ _,by rw [← HS.out,scanSorted_go ltInt dk b k hkb' (by rw [← HG.out,← HG.out];exact hl)]⟩
               case measure=>simp [intOf] <;> omega)
            | (have hl:ltInt (G k) (G (k - 1))=true:=by
                 have h:(!ltInt (G k) (G (k - 1)))=false:=by assumption
                 simpa using h
               have HK:Hid (scanSorted ltInt dk b i=k):=by
                 show scanSorted ltInt dk b i=k
                 rw [← HS.out,scanSorted_stop ltInt dk b k (Or.inr (by rw [← HG.out,← HG.out];exact hl))]
               first
                 | (at_ret
                    have hv:Sort.partialInsertionSort ltInt d a b=(dk,false):=by
                      unfold Sort.partialInsertionSort
                      rw [← HO.out,pi_short ltInt a b s i dk hs (by rw [HK.out];omega) (by omega)]
                    rw [hv]
                    go_ret
                    exact ⟨rfl,m+nq,by rw [HW.out];exact putRow_drewN _ _ _ _ _ _ _⟩)
                 | (ati_region_m 11
                    have h50:¬ b - a < 50:=by omega
                    gi_region_o
                    have hsw:((wr.drewN (nq+1)).setCell ⟨blk,off+k,none⟩ (.int .u32 (G (k - 1)))).setCell ⟨blk,off+(k - 1),none⟩ (.int .u32 (G k))=putRow (Value.int .u32) (Sort.ahead w (m+(nq+1))) blk off (swp dk k (k - 1)):=by
                      rw [HW.out,HG.out,HG.out]
                      exact swap_worldA _ w m (nq+1) blk off dk k (k - 1) (by omega) (by omega)
                    have hs1:(swp dk k (k - 1)).size=d.size:=by rw [size_swp];exact hsk
                    gi_wp2
                    all_goals first
                      | (ati_loop_m
                         have hka:k - a ≥ 2:=by omega
                         gi_loopw [9] (fun vj wr2=>∃ (j m2:Nat) (dj:Array Int),vj=.int .i64 j∧j≤k - 1∧dj.size=d.size∧wr2=putRow (Value.int .u32) (Sort.ahead w m2) blk off dj ∧
                             shiftDown ltInt j dj=shiftDown ltInt (k - 1) (swp dk k (k - 1))) (fun vj _=>(intOf vj).toNat)
                         case atStart=>exact ⟨k - 1,_,(swp dk k (k - 1)),by congr 1;omega,Nat.le_refl _,hs1,rfl,rfl⟩
                         case round =>
                           obtain ⟨j,m2,dj,rfl,hjk,hsj,hw2,hDn⟩:=hrel
                           obtain ⟨G,hG⟩:∃ G:Nat→Int,∀ t,G t=dj[t]!:=⟨fun t=>dj[t]!,fun _=>rfl⟩
                           have hcw:∀ t,t < d.size→wr.cell? ⟨blk,off+t,none⟩=some (.int .u32 (G t)):=fun t ht=>by
                             rw [hw2,hG];exact cell?_putRow _ _ _ _ d dj (holds_ahead _ _ _ _ _ _ HH.out) hsj t (by omega)
                           have hfw:∀ t,t < d.size→wr.frozen? ⟨blk,off+t,none⟩=false:=fun t ht=>by
                             rw [hw2,frozen?_putRow];exact ((holds_ahead _ _ m2 _ _ _ HH.out) t ht).2
                           have HW:Hid (wr=putRow (Value.int .u32) (Sort.ahead w m2) blk off dj):=hw2
                           have HG:Hid (∀ t,G t=dj[t]!):=hG
                           have HDn:Hid (shiftDown ltInt j dj=shiftDown ltInt (k - 1) (swp dk k (k - 1))):=hDn
                           clear hw2 hG hDn hsw
                           gi_wp2
                           all_goals first
                             | (ati_region_m 16
                                gi_big_quiet_th_o (first | (gi_at_fn (ρ.f 16);refine CallsIn.quiet_of_same (AnySU.cmp_Less_intIn { Ly with } D _ _ _)))
                                gi_wp2
                                all_goals first
                                  | (ati_region_m 17
                                     have hl:ltInt (G j) (G (j - 1))=true:=by
                                       have h:(!ltInt (G j) (G (j - 1)))=false:=by assumption
                                       simpa using h
                                     gi_region_o
                                     all_goals gi_wp2
                                     go_roundw
                                     case rel =>
                                       refine ⟨j - 1,m2+(nq+1),swp dj j (j - 1),by congr 1;omega,by omega,by rw [size_swp];exact hsj,?_,?_⟩
                                       · rw [HW.out,HG.out,HG.out]
                                         exact swap_worldA _ w m2 (nq+1) blk off dj j (j - 1) (by omega) (by omega)
                                       · rw [← HDn.out,shiftDown_go ltInt j dj (by omega) (by rw [← HG.out,← HG.out];exact hl)]
                                     case measure=>simp [intOf] <;> omega)
                                  | (
                                     have hl:ltInt (G j) (G (j - 1))=false:=by
                                       have h:(!ltInt (G j) (G (j - 1)))=true:=by assumption
                                       simpa using h
                                     have HD:Hid (fixDown ltInt a k (swp dk k (k - 1))=dj):=by
                                       show fixDown ltInt a k (swp dk k (k - 1))=dj
                                       unfold fixDown;rw [if_pos hka,← HDn.out,shiftDown_stop ltInt j dj (Or.inr (by rw [← HG.out,← HG.out];exact hl))]
                                     first
                                       | (at_end
                                          go_roundw
                                          case rel =>
                                            refine ⟨k,s+1,_,dj,rfl,by go_num,by omega,by omega,by omega,hsj,(by first | rfl | exact HW.out | (rw [HW.out];exact putRow_drewN _ _ _ _ _ _ _)),?_⟩
                                            rw [← HO.out,pi_go ltInt a b s i k dk hs HK.out (by omega) (by omega),HD.out,show fixUp ltInt b k dj=dj from by unfold fixUp;rw [if_neg (by omega)]]
                                          case measure=>simp [intOf] <;> omega)
                                       | (ati_loop_m
                                          gi_loopw [10] (fun vj wr2=>∃ (j m3:Nat) (du:Array Int),vj=.int .i64 j∧k+1≤j∧j≤b∧du.size=d.size∧wr2=putRow (Value.int .u32) (Sort.ahead w m3) blk off du ∧
                                              shiftUp ltInt b j du=shiftUp ltInt b (k+1) dj) (fun vj _=>b - (intOf vj).toNat)
                                          case atStart=>exact ⟨k+1,_,dj,by go_num,Nat.le_refl _,by omega,hsj,(by first | rfl | exact HW.out | (rw [HW.out];exact putRow_drewN _ _ _ _ _ _ _)),rfl⟩
                                          case round =>
                                            obtain ⟨j,m3,du,rfl,hkj,hjb,hsu,hw3,hU⟩:=hrel
                                            obtain ⟨G,hG⟩:∃ G:Nat→Int,∀ t,G t=du[t]!:=⟨fun t=>du[t]!,fun _=>rfl⟩
                                            have hcw:∀ t,t < d.size→wr.cell? ⟨blk,off+t,none⟩=some (.int .u32 (G t)):=fun t ht=>by
                                              rw [hw3,hG];exact cell?_putRow _ _ _ _ d du (holds_ahead _ _ _ _ _ _ HH.out) hsu t (by omega)
                                            have hfw:∀ t,t < d.size→wr.frozen? ⟨blk,off+t,none⟩=false:=fun t ht=>by
                                              rw [hw3,frozen?_putRow];exact ((holds_ahead _ _ m3 _ _ _ HH.out) t ht).2
                                            have HW:Hid (wr=putRow (Value.int .u32) (Sort.ahead w m3) blk off du):=hw3
                                            have HG:Hid (∀ t,G t=du[t]!):=hG
                                            have HU:Hid (shiftUp ltInt b j du=shiftUp ltInt b (k+1) dj):=hU
                                            clear hw3 hG hU
                                            gi_wp2
                                            all_goals first
                                              | (ati_region_m 22
                                                 gi_big_quiet_th_o (first | (gi_at_fn (ρ.f 16);refine CallsIn.quiet_of_same (AnySU.cmp_Less_intIn { Ly with } D _ _ _)))
                                                 gi_wp2
                                                 all_goals first
                                                   | (ati_region_m 23
                                                      have hl:ltInt (G j) (G (j - 1))=true:=by
                                                        have h:(!ltInt (G j) (G (j - 1)))=false:=by assumption
                                                        simpa using h
                                                      gi_region_o
                                                      all_goals gi_wp2
                                                      go_roundw
                                                      case rel =>
                                                        refine ⟨j+1,m3+(nq+1),swp du j (j - 1),by go_num,by omega,by omega,by rw [size_swp];exact hsu,?_,?_⟩
                                                        · rw [HW.out,HG.out,HG.out]
                                                          exact swap_worldA _ w m3 (nq+1) blk off du j (j - 1) (by omega) (by omega)
                                                        · rw [← HU.out,shiftUp_go ltInt b j du (by omega) (by rw [← HG.out,← HG.out];exact hl)]
                                                      case measure=>simp [intOf] <;> omega)
                                                   | (at_end
                                                      have hl:ltInt (G j) (G (j - 1))=false:=by
                                                        have h:(!ltInt (G j) (G (j - 1)))=true:=by assumption
                                                        simpa using h
                                                      go_roundw
                                                      case rel =>
                                                        refine ⟨k,s+1,_,du,rfl,by go_num,by omega,by omega,by omega,hsu,(by first | rfl | exact HW.out | (rw [HW.out];exact putRow_drewN _ _ _ _ _ _ _)),?_⟩
                                                        rw [← HO.out,pi_go ltInt a b s i k dk hs HK.out (by omega) (by omega),HD.out,show fixUp ltInt b k dj=du from by unfold fixUp;rw [if_pos (by omega),← HU.out,shiftUp_stop ltInt b j du (Or.inr (by rw [← HG.out,← HG.out];exact hl))]]
                                                      case measure=>simp [intOf] <;> omega))
                                              | (at_end
                                                 go_roundw
                                                 case rel =>
                                                   refine ⟨k,s+1,_,du,rfl,by go_num,by omega,by omega,by omega,hsu,(by first | rfl | exact HW.out | (rw [HW.out];exact putRow_drewN _ _ _ _ _ _ _)),?_⟩
                                                   rw [← HO.out,pi_go ltInt a b s i k dk hs HK.out (by omega) (by omega),HD.out,show fixUp ltInt b k dj=du from by unfold fixUp;rw [if_pos (by omega),← HU.out,shiftUp_stop ltInt b j du (Or.inl (by omega))]]
                                                 case measure=>simp [intOf] <;> omega))))
                             | (
                                have HD:Hid (fixDown ltInt a k (swp dk k (k - 1))=dj):=by
                                  show fixDown ltInt a k (swp dk k (k - 1))=dj
                                  unfold fixDown;rw [if_pos hka,← HDn.out,shiftDown_stop ltInt j dj (Or.inl (by omega))]
                                first
                                  | (at_end
                                     go_roundw
                                     case rel =>
                                       refine ⟨k,s+1,_,dj,rfl,by go_num,by omega,by omega,by omega,hsj,(by first | rfl | exact HW.out | (rw [HW.out];exact putRow_drewN _ _ _ _ _ _ _)),?_⟩
                                       rw [← HO.out,pi_go ltInt a b s i k dk hs HK.out (by omega) (by omega),HD.out,show fixUp ltInt b k dj=dj from by unfold fixUp;rw [if_neg (by omega)]]
                                     case measure=>simp [intOf] <;> omega)
                                  | (ati_loop_m
                                     gi_loopw [10] (fun vj wr2=>∃ (j m3:Nat) (du:Array Int),vj=.int .i64 j∧k+1≤j∧j≤b∧du.size=d.size∧wr2=putRow (Value.int .u32) (Sort.ahead w m3) blk off du ∧
                                         shiftUp ltInt b j du=shiftUp ltInt b (k+1) dj) (fun vj _=>b - (intOf vj).toNat)
                                     case atStart=>exact ⟨k+1,_,dj,by go_num,Nat.le_refl _,by omega,hsj,(by first | rfl | exact HW.out | (rw [HW.out];exact putRow_drewN _ _ _ _ _ _ _)),rfl⟩
                                     case round =>
                                       obtain ⟨j,m3,du,rfl,hkj,hjb,hsu,hw3,hU⟩:=hrel
                                       obtain ⟨G,hG⟩:∃ G:Nat→Int,∀ t,G t=du[t]!:=⟨fun t=>du[t]!,fun _=>rfl⟩
                                       have hcw:∀ t,t < d.size→wr.cell? ⟨blk,off+t,none⟩=some (.int .u32 (G t)):=fun t ht=>by
                                         rw [hw3,hG];exact cell?_putRow _ _ _ _ d du (holds_ahead _ _ _ _ _ _ HH.out) hsu t (by omega)
                                       have hfw:∀ t,t < d.size→wr.frozen? ⟨blk,off+t,none⟩=false:=fun t ht=>by
                                         rw [hw3,frozen?_putRow];exact ((holds_ahead _ _ m3 _ _ _ HH.out) t ht).2
                                       have HW:Hid (wr=putRow (Value.int .u32) (Sort.ahead w m3) blk off du):=hw3
                                       have HG:Hid (∀ t,G t=du[t]!):=hG
                                       have HU:Hid (shiftUp ltInt b j du=shiftUp ltInt b (k+1) dj):=hU
                                       clear hw3 hG hU
                                       gi_wp2
                                       all_goals first
                                         | (ati_region_m 22
                                            gi_big_quiet_th_o (first | (gi_at_fn (ρ.f 16);refine CallsIn.quiet_of_same (AnySU.cmp_Less_intIn { Ly with } D _ _ _)))
                                            gi_wp2
                                            all_goals first
                                              | (ati_region_m 23
                                                 have hl:ltInt (G j) (G (j - 1))=true:=by
                                                   have h:(!ltInt (G j) (G (j - 1)))=false:=by assumption
                                                   simpa using h
                                                 gi_region_o
                                                 all_goals gi_wp2
                                                 go_roundw
                                                 case rel =>
                                                   refine ⟨j+1,m3+(nq+1),swp du j (j - 1),by go_num,by omega,by omega,by rw [size_swp];exact hsu,?_,?_⟩
                                                   · rw [HW.out,HG.out,HG.out]
                                                     exact swap_worldA _ w m3 (nq+1) blk off du j (j - 1) (by omega) (by omega)
                                                   · rw [← HU.out,shiftUp_go ltInt b j du (by omega) (by rw [← HG.out,← HG.out];exact hl)]
                                                 case measure=>simp [intOf] <;> omega)
                                              | (at_end
                                                 have hl:ltInt (G j) (G (j - 1))=false:=by
                                                   have h:(!ltInt (G j) (G (j - 1)))=true:=by assumption
                                                   simpa using h
                                                 go_roundw
                                                 case rel =>
                                                   refine ⟨k,s+1,_,du,rfl,by go_num,by omega,by omega,by omega,hsu,(by first | rfl | exact HW.out | (rw [HW.out];exact putRow_drewN _ _ _ _ _ _ _)),?_⟩
                                                   rw [← HO.out,pi_go ltInt a b s i k dk hs HK.out (by omega) (by omega),HD.out,show fixUp ltInt b k dj=du from by unfold fixUp;rw [if_pos (by omega),← HU.out,shiftUp_stop ltInt b j du (Or.inr (by rw [← HG.out,← HG.out];exact hl))]]
                                                 case measure=>simp [intOf] <;> omega))
                                         | (at_end
                                            go_roundw
                                            case rel =>
                                              refine ⟨k,s+1,_,du,rfl,by go_num,by omega,by omega,by omega,hsu,(by first | rfl | exact HW.out | (rw [HW.out];exact putRow_drewN _ _ _ _ _ _ _)),?_⟩
                                              rw [← HO.out,pi_go ltInt a b s i k dk hs HK.out (by omega) (by omega),HD.out,show fixUp ltInt b k dj=du from by unfold fixUp;rw [if_pos (by omega),← HU.out,shiftUp_stop ltInt b j du (Or.inl (by omega))]]
                                            case measure=>simp [intOf] <;> omega))))
                      | (
                         have HD:Hid (fixDown ltInt a k (swp dk k (k - 1))=(swp dk k (k - 1))):=by
                           show fixDown ltInt a k (swp dk k (k - 1))=(swp dk k (k - 1))
                           unfold fixDown;rw [if_neg (by omega)]
                         first
                           | (at_end
                              go_roundw
                              case rel =>
                                refine ⟨k,s+1,_,(swp dk k (k - 1)),rfl,by go_num,by omega,by omega,by omega,hs1,(by first | rfl | exact HW.out | (rw [HW.out];exact putRow_drewN _ _ _ _ _ _ _)),?_⟩
                                rw [← HO.out,pi_go ltInt a b s i k dk hs HK.out (by omega) (by omega),HD.out,show fixUp ltInt b k (swp dk k (k - 1))=(swp dk k (k - 1)) from by unfold fixUp;rw [if_neg (by omega)]]
                              case measure=>simp [intOf] <;> omega)
                           | (ati_loop_m
                              gi_loopw [10] (fun vj wr2=>∃ (j m3:Nat) (du:Array Int),vj=.int .i64 j∧k+1≤j∧j≤b∧du.size=d.size∧wr2=putRow (Value.int .u32) (Sort.ahead w m3) blk off du ∧
                                  shiftUp ltInt b j du=shiftUp ltInt b (k+1) (swp dk k (k - 1))) (fun vj _=>b - (intOf vj).toNat)
                              case atStart=>exact ⟨k+1,_,(swp dk k (k - 1)),by go_num,Nat.le_refl _,by omega,hs1,(by first | rfl | exact HW.out | (rw [HW.out];exact putRow_drewN _ _ _ _ _ _ _)),rfl⟩
                              case round =>
                                obtain ⟨j,m3,du,rfl,hkj,hjb,hsu,hw3,hU⟩:=hrel
                                obtain ⟨G,hG⟩:∃ G:Nat→Int,∀ t,G t=du[t]!:=⟨fun t=>du[t]!,fun _=>rfl⟩
                                have hcw:∀ t,t < d.size→wr.cell? ⟨blk,off+t,none⟩=some (.int .u32 (G t)):=fun t ht=>by
                                  rw [hw3,hG];exact cell?_putRow _ _ _ _ d du (holds_ahead _ _ _ _ _ _ HH.out) hsu t (by omega)
                                have hfw:∀ t,t < d.size→wr.frozen? ⟨blk,off+t,none⟩=false:=fun t ht=>by
                                  rw [hw3,frozen?_putRow];exact ((holds_ahead _ _ m3 _ _ _ HH.out) t ht).2
                                have HW:Hid (wr=putRow (Value.int .u32) (Sort.ahead w m3) blk off du):=hw3
                                have HG:Hid (∀ t,G t=du[t]!):=hG
                                have HU:Hid (shiftUp ltInt b j du=shiftUp ltInt b (k+1) (swp dk k (k - 1))):=hU
                                clear hw3 hG hU
                                gi_wp2
                                all_goals first
                                  | (ati_region_m 22
                                     gi_big_quiet_th_o (first | (gi_at_fn (ρ.f 16);refine CallsIn.quiet_of_same (AnySU.cmp_Less_intIn { Ly with } D _ _ _)))
                                     gi_wp2
                                     all_goals first
                                       | (ati_region_m 23
                                          have hl:ltInt (G j) (G (j - 1))=true:=by
                                            have h:(!ltInt (G j) (G (j - 1)))=false:=by assumption
                                            simpa using h
                                          gi_region_o
                                          all_goals gi_wp2
                                          go_roundw
                                          case rel =>
                                            refine ⟨j+1,m3+(nq+1),swp du j (j - 1),by go_num,by omega,by omega,by rw [size_swp];exact hsu,?_,?_⟩
                                            · rw [HW.out,HG.out,HG.out]
                                              exact swap_worldA _ w m3 (nq+1) blk off du j (j - 1) (by omega) (by omega)
                                            · rw [← HU.out,shiftUp_go ltInt b j du (by omega) (by rw [← HG.out,← HG.out];exact hl)]
                                          case measure=>simp [intOf] <;> omega)
                                       | (at_end
                                          have hl:ltInt (G j) (G (j - 1))=false:=by
                                            have h:(!ltInt (G j) (G (j - 1)))=true:=by assumption
                                            simpa using h
                                          go_roundw
                                          case rel =>
                                            refine ⟨k,s+1,_,du,rfl,by go_num,by omega,by omega,by omega,hsu,(by first | rfl | exact HW.out | (rw [HW.out];exact putRow_drewN _ _ _ _ _ _ _)),?_⟩
                                            rw [← HO.out,pi_go ltInt a b s i k dk hs HK.out (by omega) (by omega),HD.out,show fixUp ltInt b k (swp dk k (k - 1))=du from by unfold fixUp;rw [if_pos (by omega),← HU.out,shiftUp_stop ltInt b j du (Or.inr (by rw [← HG.out,← HG.out];exact hl))]]
                                          case measure=>simp [intOf] <;> omega))
                                  | (at_end
                                     go_roundw
                                     case rel =>
                                       refine ⟨k,s+1,_,du,rfl,by go_num,by omega,by omega,by omega,hsu,(by first | rfl | exact HW.out | (rw [HW.out];exact putRow_drewN _ _ _ _ _ _ _)),?_⟩
                                       rw [← HO.out,pi_go ltInt a b s i k dk hs HK.out (by omega) (by omega),HD.out,show fixUp ltInt b k (swp dk k (k - 1))=du from by unfold fixUp;rw [if_pos (by omega),← HU.out,shiftUp_stop ltInt b j du (Or.inl (by omega))]]
                                     case measure=>simp [intOf] <;> omega)))))
        ·
          gi_big_quiet_th_o (first | (gi_at_fn (ρ.f 16);refine CallsIn.quiet_of_same (AnySU.cmp_Less_intIn { Ly with } D _ _ _)))
          gi_wp2
          obtain rfl:k=b:=by omega
          have hv:Sort.partialInsertionSort ltInt d a k=(dk,true):=by
            unfold Sort.partialInsertionSort
            rw [← HO.out,pi_true ltInt a k s i dk hs (by rw [← HS.out,scanSorted_stop ltInt dk k k (Or.inl (by omega))])]
          rw [hv]
          go_ret
          exact ⟨rfl,m+nq,by rw [HW.out];exact putRow_drewN _ _ _ _ _ _ _⟩
    ·
      obtain rfl:s=5:=by omega
      have hv:Sort.partialInsertionSort ltInt d a b=(dk,false):=by
        unfold Sort.partialInsertionSort
        rw [← HO.out,pi_end]
      rw [hv]
      go_ret
      exact ⟨rfl,n,rfl⟩
end Go.Proofs.YtiomgckodmecbaaGreat
namespace Go.Proofs.YtiomgckodmecbaaGreat
open Go.Shelf
variable {P:Program} {ρ:Ren}
theorem len8tab_sizeM:(Lib.len8tab.size:Int)=256:=by
  have:Lib.len8tab.size=256:=by decide
  omega
theorem wrap_addM (k a b:Nat) (hk:k≤56) (ha:a≤8) (hb:b=k+a):RowKit.wrap64 ((k:Int)+RowKit.wrap64 (a:Int))=(b:Int):=by
  unfold RowKit.wrap64
  omega
theorem wrap_wrapM (a:Nat) (ha:a≤8):RowKit.wrap64 (RowKit.wrap64 (a:Int))=(a:Int):=by
  unfold RowKit.wrap64
  omega
theorem wrap_oneM (a:Nat) (ha:a≤8):RowKit.wrap64 (a:Int)=(a:Int):=by
  unfold RowKit.wrap64
  omega
theorem len8_getM (y:Int) (h:y.toNat < Lib.len8tab.size):((Lib.len8tab[y.toNat]'h).toNat:Int)=Lib.len8 y:=by
  unfold Lib.len8
  rw [getElem?_pos Lib.len8tab y.toNat h]
  rfl
theorem AnySU.bits_Len64In (Ly:SlW32.n20 P ρ) (D:Nat) (x:Int) (w:World) (h0:0≤x) (h1:x≤18446744073709551615) :
    CallsIn (Fence.list [ρ.f 5,ρ.f 7,ρ.f 8,ρ.f 10,ρ.f 11,ρ.f 12,ρ.f 13,ρ.f 14,ρ.f 15,ρ.f 16,ρ.f 17,ρ.f 18,ρ.f 20,ρ.f 30,ρ.f 31,ρ.f 32,ρ.f 33,ρ.f 34,ρ.f 35,ρ.f 40] (some D)) 0 P (ρ.f 20) #[.int .u64 x] w fun e w'=>e=.returned (.int .i64 (Lib.bitLen x.toNat))∧w'=w:=by
  have mixed:=Ly.mixed
  have t3:=Ly.t3;have a3:=Ly.a3;have z3:=Ly.z3;have v3:=Ly.v3;have t4:=Ly.t4;have a4:=Ly.a4;have z4:=Ly.z4;have v4:=Ly.v4;have t5:=Ly.t5;have a5:=Ly.a5;have z5:=Ly.z5;have v5:=Ly.v5;have t9:=Ly.t9;have a9:=Ly.a9;have z9:=Ly.z9;have v9:=Ly.v9;have t32:=Ly.t32;have a32:=Ly.a32;have z32:=Ly.z32;have v32:=Ly.v32;have t46:=Ly.t46;have a46:=Ly.a46;have z46:=Ly.z46;have v46:=Ly.v46
  gi_enter Ly.f20,SlBodyM.n20_ntmps ρ
  gi_wp2
  all_goals first
    | (go_ret;refine ⟨congrArg Ending.returned (congrArg (Value.int IntKind.i64) ?_),rfl⟩;go_light)
    | (exfalso
       go_light
       have hs:=len8tab_sizeM
       omega)
  all_goals first
    | (rw [len8_getM (x / 4294967296 / 65536 / 256) _,Lib.len8_of (x / 4294967296 / 65536 / 256) (by omega) (by omega)]
       have e:(x / 4294967296 / 65536 / 256).toNat=x.toNat / 72057594037927936:=by omega
       have l:=Lib.bitLen_le8' (x / 4294967296 / 65536 / 256) (by omega) (by omega)
       have s:=Lib.bitLen_shift56 x.toNat (by omega) (by omega)
       rw [e] at l ⊢
       exact wrap_addM 56 _ _ (by decide) l s)
    | (rw [len8_getM (x / 4294967296 / 65536) _,Lib.len8_of (x / 4294967296 / 65536) (by omega) (by omega)]
       have e:(x / 4294967296 / 65536).toNat=x.toNat / 281474976710656:=by omega
       have l:=Lib.bitLen_le8' (x / 4294967296 / 65536) (by omega) (by omega)
       have s:=Lib.bitLen_shift48 x.toNat (by omega) (by omega)
       rw [e] at l ⊢
       exact wrap_addM 48 _ _ (by decide) l s)
    | (rw [len8_getM (x / 4294967296 / 256) _,Lib.len8_of (x / 4294967296 / 256) (by omega) (by omega)]
       have e:(x / 4294967296 / 256).toNat=x.toNat / 1099511627776:=by omega
       have l:=Lib.bitLen_le8' (x / 4294967296 / 256) (by omega) (by omega)
       have s:=Lib.bitLen_shift40 x.toNat (by omega) (by omega)
       rw [e] at l ⊢
       exact wrap_addM 40 _ _ (by decide) l s)
    | (rw [len8_getM (x / 4294967296) _,Lib.len8_of (x / 4294967296) (by omega) (by omega)]
       have e:(x / 4294967296).toNat=x.toNat / 4294967296:=by omega
       have l:=Lib.bitLen_le8' (x / 4294967296) (by omega) (by omega)
       have s:=Lib.bitLen_shift32 x.toNat (by omega) (by omega)
       rw [e] at l ⊢
       exact wrap_addM 32 _ _ (by decide) l s)
    | (rw [len8_getM (x / 65536 / 256) _,Lib.len8_of (x / 65536 / 256) (by omega) (by omega)]
       have e:(x / 65536 / 256).toNat=x.toNat / 16777216:=by omega
       have l:=Lib.bitLen_le8' (x / 65536 / 256) (by omega) (by omega)
       have s:=Lib.bitLen_shift24 x.toNat (by omega) (by omega)
       rw [e] at l ⊢
       exact wrap_addM 24 _ _ (by decide) l s)
    | (rw [len8_getM (x / 65536) _,Lib.len8_of (x / 65536) (by omega) (by omega)]
       have e:(x / 65536).toNat=x.toNat / 65536:=by omega
       have l:=Lib.bitLen_le8' (x / 65536) (by omega) (by omega)
       have s:=Lib.bitLen_shift16 x.toNat (by omega) (by omega)
       rw [e] at l ⊢
       exact wrap_addM 16 _ _ (by decide) l s)
    | (rw [len8_getM (x / 256) _,Lib.len8_of (x / 256) (by omega) (by omega)]
       have e:(x / 256).toNat=x.toNat / 256:=by omega
       have l:=Lib.bitLen_le8' (x / 256) (by omega) (by omega)
       have s:=Lib.bitLen_shift8 x.toNat (by omega) (by omega)
       rw [e] at l ⊢
       exact wrap_addM 8 _ _ (by decide) l s)
    | (rw [len8_getM (x) _,Lib.len8_of (x) (by omega) (by omega)]
       have e:(x).toNat=x.toNat:=by omega
       have l:=Lib.bitLen_le8' (x) (by omega) (by omega)
       rw [e] at l ⊢
       first | exact wrap_wrapM _ l | exact wrap_addM 0 _ _ (by decide) l (by omega) | exact wrap_oneM _ l)
end Go.Proofs.YtiomgckodmecbaaGreat
namespace Go.Proofs.YtiomgckodmecbaaGreat
open Go.Shelf
variable {P:Program} {ρ:Ren}
theorem AnySU.bits_LenIn (Ly:SlW32.n8 P ρ) (D:Nat) (x:Int) (w:World) (h0:0≤x) (h1:x≤18446744073709551615) :
  CallsIn (Fence.list [ρ.f 5,ρ.f 7,ρ.f 8,ρ.f 10,ρ.f 11,ρ.f 12,ρ.f 13,ρ.f 14,ρ.f 15,ρ.f 16,ρ.f 17,ρ.f 18,ρ.f 20,ρ.f 30,ρ.f 31,ρ.f 32,ρ.f 33,ρ.f 34,ρ.f 35,ρ.f 40] (some D)) 1 P (ρ.f 8) #[.int .u64 x] w fun e w'=>e=.returned (.int .i64 (Lib.bitLen x.toNat))∧w'=w:=by
 have mixed:=Ly.mixed
 have t3:=Ly.t3;have a3:=Ly.a3;have z3:=Ly.z3;have v3:=Ly.v3;have t4:=Ly.t4;have a4:=Ly.a4;have z4:=Ly.z4;have v4:=Ly.v4;have t5:=Ly.t5;have a5:=Ly.a5;have z5:=Ly.z5;have v5:=Ly.v5;have t9:=Ly.t9;have a9:=Ly.a9;have z9:=Ly.z9;have v9:=Ly.v9;have t32:=Ly.t32;have a32:=Ly.a32;have z32:=Ly.z32;have v32:=Ly.v32;have t44:=Ly.t44;have a44:=Ly.a44;have z44:=Ly.z44;have v44:=Ly.v44;have t46:=Ly.t46;have a46:=Ly.a46;have z46:=Ly.z46;have v46:=Ly.v46
 have e128:∀ args w,(callFunc (ρ.f 19) args).run P w=.ok (.enter (ρ.f 19) args) w:=enters_of Ly.f19 (by kernel_rfl) rfl
 have e129:∀ args w,(callFunc (ρ.f 20) args).run P w=.ok (.enter (ρ.f 20) args) w:=enters_of Ly.f20 (by kernel_rfl) rfl
 gi_enter Ly.f8,SlBodyM.n8_ntmps ρ
 gi_wp2_with (gi_at_fn (ρ.f 20);refine (AnySU.bits_Len64In { Ly with } D x _ h0 h1).mono ?_;rintro e w' ⟨rfl,rfl⟩)
 go_ret
 exact ⟨rfl,rfl⟩
end Go.Proofs.YtiomgckodmecbaaGreat
namespace Go.Proofs.YtiomgckodmecbaaGreat
open Go.Shelf
variable {P:Program} {ρ:Ren}
open Go.RowKit Go.Sort
theorem AnySU.xorshift_NextIn (Ly:SlW32.n32 P ρ) (D:Nat) (rb ro X:Nat) (hX:X < 18446744073709551616) (w:World) (hc:w.cell? ⟨rb,ro,none⟩=some (.int .u64 X)) (hf:w.frozen? ⟨rb,ro,none⟩=false) :
  CallsIn (Fence.list [ρ.f 5,ρ.f 7,ρ.f 8,ρ.f 10,ρ.f 11,ρ.f 12,ρ.f 13,ρ.f 14,ρ.f 15,ρ.f 16,ρ.f 17,ρ.f 18,ρ.f 20,ρ.f 30,ρ.f 31,ρ.f 32,ρ.f 33,ρ.f 34,ρ.f 35,ρ.f 40] (some D)) 0 P (ρ.f 32) #[.pointer (some ⟨rb,ro,none⟩)] w fun e w'=>e=.returned (.int .u64 (xorNextN X:Nat))∧w'=(w.setCell ⟨rb,ro,none⟩ (.int .u64 (xorNextN X:Nat))).drewN 3:=by
 obtain ⟨A,hA⟩:∃ A:Nat,A=X ^^^ (X * 8192 % 18446744073709551616):=⟨_,rfl⟩
 obtain ⟨B,hB⟩:∃ B:Nat,B=A ^^^ (A / 128):=⟨_,rfl⟩
 obtain ⟨C,hC⟩:∃ C:Nat,C=B ^^^ (B * 131072 % 18446744073709551616):=⟨_,rfl⟩
 have lA:A < 18446744073709551616:=by rw [hA];exact Nat.xor_lt_two_pow (n:=64) (by omega) (by omega)
 have lB:B < 18446744073709551616:=by rw [hB];exact Nat.xor_lt_two_pow (n:=64) (by omega) (by omega)
 have e1:bits .xor .u64 (X:Int) (IntKind.u64.wrap ((X:Int) * 8192))=(A:Int):=by
  rw [IntKind.wrap_u64,show ((X:Int) * 8192 % 18446744073709551616)=((X * 8192 % 18446744073709551616:Nat):Int) by omega,bits_xor_u64_nat _ _ hX (by omega),hA]
 have e2:bits .xor .u64 (A:Int) ((A:Int) / 128)=(B:Int):=by
  rw [show ((A:Int) / 128)=((A / 128:Nat):Int) by omega,bits_xor_u64_nat _ _ lA (by omega),hB]
 have e3:bits .xor .u64 (B:Int) (IntKind.u64.wrap ((B:Int) * 131072))=(C:Int):=by
  rw [IntKind.wrap_u64,show ((B:Int) * 131072 % 18446744073709551616)=((B * 131072 % 18446744073709551616:Nat):Int) by omega,bits_xor_u64_nat _ _ lB (by omega),hC]
 have hv:xorNextN X=C:=by unfold xorNextN;simp only [];rw [← hA,← hB,← hC]
 rw [hv]
 clear hA hB hC hv
 have hss:∀ v v',(w.setCell ⟨rb,ro,none⟩ v).setCell ⟨rb,ro,none⟩ v'=w.setCell ⟨rb,ro,none⟩ v':=setCell_setCell w rb ro
 have mixed:=Ly.mixed
 have t0:=Ly.t0;have a0:=Ly.a0;have z0:=Ly.z0;have v0:=Ly.v0;have t32:=Ly.t32;have a32:=Ly.a32;have z32:=Ly.z32;have v32:=Ly.v32;have t46:=Ly.t46;have a46:=Ly.a46;have z46:=Ly.z46;have v46:=Ly.v46;have t53:=Ly.t53;have a53:=Ly.a53;have z53:=Ly.z53;have v53:=Ly.v53;have t63:=Ly.t63;have a63:=Ly.a63;have z63:=Ly.z63;have v63:=Ly.v63
 gi_enter Ly.f32,SlBodyM.n32_ntmps ρ
 gi_wp2
 gi_region_o
 all_goals gi_wp2
 all_goals gi_region_o
 all_goals gi_wp2
 all_goals gi_region_o
 all_goals gi_wp2
 go_ret
 exact ⟨rfl,rfl⟩
theorem AnySU.nextPowerOfTwoIn (Ly:SlW32.n31 P ρ) (D:Nat) (n:Nat) (hn:n < 4611686018427387904) (w:World) :
  CallsIn (Fence.list [ρ.f 5,ρ.f 7,ρ.f 8,ρ.f 10,ρ.f 11,ρ.f 12,ρ.f 13,ρ.f 14,ρ.f 15,ρ.f 16,ρ.f 17,ρ.f 18,ρ.f 20,ρ.f 30,ρ.f 31,ρ.f 32,ρ.f 33,ρ.f 34,ρ.f 35,ρ.f 40] (some D)) 2 P (ρ.f 31) #[.int .i64 n] w fun e w'=>e=.returned (.int .u64 ((1 <<< bitsLen n:Nat):Int))∧w'=w:=by
 have hLen:∀ w,CallsIn (Fence.list [ρ.f 5,ρ.f 7,ρ.f 8,ρ.f 10,ρ.f 11,ρ.f 12,ρ.f 13,ρ.f 14,ρ.f 15,ρ.f 16,ρ.f 17,ρ.f 18,ρ.f 20,ρ.f 30,ρ.f 31,ρ.f 32,ρ.f 33,ρ.f 34,ρ.f 35,ρ.f 40] (some D)) 1 P (ρ.f 8) #[.int .u64 (n:Int)] w fun e w'=>e=.returned (.int .i64 (bitsLen n:Nat))∧w'=w:=fun w=>by
  have h:=AnySU.bits_LenIn { Ly with } D (n:Int) w (by omega) (by omega)
  rwa [Int.toNat_natCast,bitLen_eq _ (by omega)] at h
 have hk:bitsLen n≤62:=(bitsLen_le_iff n 62).2 (by omega)
 have hp:=wrap_two_pow (bitsLen n) hk
 have mixed:=Ly.mixed
 have t3:=Ly.t3;have a3:=Ly.a3;have z3:=Ly.z3;have v3:=Ly.v3;have t4:=Ly.t4;have a4:=Ly.a4;have z4:=Ly.z4;have v4:=Ly.v4;have t5:=Ly.t5;have a5:=Ly.a5;have z5:=Ly.z5;have v5:=Ly.v5;have t9:=Ly.t9;have a9:=Ly.a9;have z9:=Ly.z9;have v9:=Ly.v9;have t32:=Ly.t32;have a32:=Ly.a32;have z32:=Ly.z32;have v32:=Ly.v32;have t44:=Ly.t44;have a44:=Ly.a44;have z44:=Ly.z44;have v44:=Ly.v44;have t46:=Ly.t46;have a46:=Ly.a46;have z46:=Ly.z46;have v46:=Ly.v46
 have e125:∀ args w,(callFunc (ρ.f 8) args).run P w=.ok (.enter (ρ.f 8) args) w:=enters_of Ly.f8 (by kernel_rfl) rfl
 gi_enter Ly.f31,SlBodyM.n31_ntmps ρ
 gi_wp2_with (first | (gi_at_fn (ρ.f 8);refine (hLen _).mono ?_;rintro e w' ⟨rfl,rfl⟩))
 go_ret
 exact ⟨rfl,rfl⟩
end Go.Proofs.YtiomgckodmecbaaGreat
namespace Go.Proofs.YtiomgckodmecbaaGreat
open Go.Shelf
variable {P:Program} {ρ:Ren}
open Go.RowKit Go.Sort
section
variable {α:Type} [Inhabited α]
end
theorem AnySU.breakPatterns_int_goIn (Ly:SlW32.n12 P ρ) (D:Nat) (blk off cap a L:Nat) (d:Array Int) (w:World) (hH:Holds (Value.int .u32) w blk off d) (hblk:blk < w.heap.size) (hb:a+L≤d.size) (hsz:d.size < 4611686018427387904) (h8:8≤L) :
    CallsIn (Fence.list [ρ.f 5,ρ.f 7,ρ.f 8,ρ.f 10,ρ.f 11,ρ.f 12,ρ.f 13,ρ.f 14,ρ.f 15,ρ.f 16,ρ.f 17,ρ.f 18,ρ.f 20,ρ.f 30,ρ.f 31,ρ.f 32,ρ.f 33,ρ.f 34,ρ.f 35,ρ.f 40] (some D)) 3 P (ρ.f 12) #[.slice (some ⟨blk,off,none⟩) d.size cap,.int .i64 a,.int .i64 ((a+L:Nat):Int)] w fun e w' =>
      e=.returned (.tuple #[])∧∃ n os,w'=grow (putRow (Value.int .u32) (Sort.ahead w n) blk off (breakPatterns d a (a+L))) os:=by
  rw [breakPatterns_eq d a L h8]
  obtain ⟨M,hM⟩:∃ M:Nat,M=1 <<< bitsLen L:=⟨_,rfl⟩
  have hM1:1≤M:=by rw [hM,Nat.one_shiftLeft];exact Nat.two_pow_pos _
  have hM2:M≤2 * L:=by rw [hM,Nat.one_shiftLeft];exact two_pow_bitsLen_le (by omega)
  have hNP:∀ w,CallsIn (Fence.list [ρ.f 5,ρ.f 7,ρ.f 8,ρ.f 10,ρ.f 11,ρ.f 12,ρ.f 13,ρ.f 14,ρ.f 15,ρ.f 16,ρ.f 17,ρ.f 18,ρ.f 20,ρ.f 30,ρ.f 31,ρ.f 32,ρ.f 33,ρ.f 34,ρ.f 35,ρ.f 40] (some D)) 2 P (ρ.f 31) #[.int .i64 (L:Int)] w fun e w'=>e=.returned (.int .u64 (M:Int))∧w'=w:=by rw [hM];exact fun w=>AnySU.nextPowerOfTwoIn { Ly with } D L (by omega) w
  rw [← hM]
  clear hM
  have HH:Hid (Holds (Value.int .u32) w blk off d):=hH
  have HST:Hid (w.alloc (Obj.cells #[.int .u64 (L:Int)] (ρ.t 53))=grow (putRow (Value.int .u32) (Sort.ahead w 0) blk off d) #[Obj.cells #[.int .u64 ((UInt64.ofNat L).toNat:Int)] (ρ.t 53)]):=by
    show _=_
    rw [show Sort.ahead w 0=w from rfl,putRow_self _ _ _ _ _ hH,alloc_eq_grow,show (UInt64.ofNat L).toNat=L from by simp <;> omega]
  clear hH
  have mixed:=Ly.mixed
  have t0:=Ly.t0;have a0:=Ly.a0;have z0:=Ly.z0;have v0:=Ly.v0;have t3:=Ly.t3;have a3:=Ly.a3;have z3:=Ly.z3;have v3:=Ly.v3;have t4:=Ly.t4;have a4:=Ly.a4;have z4:=Ly.z4;have v4:=Ly.v4;have t5:=Ly.t5;have a5:=Ly.a5;have z5:=Ly.z5;have v5:=Ly.v5;have t9:=Ly.t9;have a9:=Ly.a9;have z9:=Ly.z9;have v9:=Ly.v9;have t22:=Ly.t22;have a22:=Ly.a22;have z22:=Ly.z22;have v22:=Ly.v22;have t25:=Ly.t25;have a25:=Ly.a25;have z25:=Ly.z25;have v25:=Ly.v25;have t32:=Ly.t32;have a32:=Ly.a32;have z32:=Ly.z32;have v32:=Ly.v32;have t44:=Ly.t44;have a44:=Ly.a44;have z44:=Ly.z44;have v44:=Ly.v44;have t46:=Ly.t46;have a46:=Ly.a46;have z46:=Ly.z46;have v46:=Ly.v46;have t53:=Ly.t53;have a53:=Ly.a53;have z53:=Ly.z53;have v53:=Ly.v53;have t63:=Ly.t63;have a63:=Ly.a63;have z63:=Ly.z63;have v63:=Ly.v63
  have e329:∀ args w,(callFunc (ρ.f 31) args).run P w=.ok (.enter (ρ.f 31) args) w:=enters_of Ly.f31 (by kernel_rfl) rfl
  have e330:∀ args w,(callFunc (ρ.f 32) args).run P w=.ok (.enter (ρ.f 32) args) w:=enters_of Ly.f32 (by kernel_rfl) rfl
  obtain ⟨_,_,FG⟩:=Ly.f12
  gi_enter FG,SlBodyM.n12_ntmps ρ
  gi_wp2_with (first | (gi_at_fn (ρ.f 31);rw [show ((a:Int)+(L:Int) - (a:Int))=(L:Int) by omega];refine ((hNP _).more (by omega)).mono ?_;rintro e w' ⟨rfl,rfl⟩))
  gi_loopw [9] (fun vi wr=>∃ (t n:Nat) (r:UInt64) (dk:Array Int),vi=.int .i64 ((a+L / 4 * 2 - 1+t:Nat):Int)∧t≤3∧dk.size=d.size ∧
      wr=grow (putRow (Value.int .u32) (Sort.ahead w n) blk off dk) #[Obj.cells #[.int .u64 (r.toNat:Int)] (ρ.t 53)] ∧
      bpRest a L M (a+L / 4 * 2 - 1) (3 - t) t (r,dk)=bpRest a L M (a+L / 4 * 2 - 1) 3 0 (UInt64.ofNat L,d)) (fun vi _=>a+L / 4 * 2+3 - (intOf vi).toNat)
  case atStart=>exact ⟨0,0,UInt64.ofNat L,d,by congr 1;omega,by omega,rfl,HST.out,rfl⟩
  case round =>
    obtain ⟨t,n,r,dk,rfl,ht,hsk,hw,hR⟩:=hrel
    obtain ⟨R,hRr⟩:∃ R:Nat,R=r.toNat:=⟨_,rfl⟩
    have lR:R < 18446744073709551616:=by rw [hRr];exact r.toNat_lt
    obtain ⟨R',hR'⟩:∃ R':Nat,R'=xorNextN R:=⟨_,rfl⟩
    have lR':R' < 18446744073709551616:=by rw [hR'];exact xorNextN_lt R lR
    obtain ⟨O,hO⟩:∃ O:Nat,O=R' &&& (M - 1):=⟨_,rfl⟩
    have lO:O≤M - 1:=by rw [hO];exact Nat.and_le_right
    have eAnd:bits .and .u64 (R':Int) ((M:Int) - 1)=(O:Int):=by
      rw [show ((M:Int) - 1)=((M - 1:Nat):Int) by omega,bits_and_u64_nat _ _ lR' (by omega),hO]
    obtain ⟨G,hG⟩:∃ G:Nat→Int,∀ x,G x=dk[x]!:=⟨fun x=>dk[x]!,fun _=>rfl⟩
    have hz:(putRow (Value.int .u32) (Sort.ahead w n) blk off dk).heap.size=w.heap.size:=by simp
    have hcw:∀ x,x < d.size→wr.cell? ⟨blk,off+x,none⟩=some (.int .u32 (G x)):=fun x hx=>by
      rw [hw,cell?_grow _ _ _ (by rw [hz];exact hblk),hG];exact cell?_putRow _ _ _ _ d dk (holds_ahead _ _ _ _ _ _ HH.out) hsk x (by omega)
    have hfw:∀ x,x < d.size→wr.frozen? ⟨blk,off+x,none⟩=false:=fun x hx=>by
      rw [hw,frozen?_grow _ _ _ (by rw [hz];exact hblk),frozen?_putRow];exact ((holds_ahead _ _ n _ _ _ HH.out) x hx).2
    have hcB:wr.cell? ⟨w.heap.size,0,none⟩=some (.int .u64 (R:Int)):=by rw [hw,hRr,← hz];exact grow_one_cell _ _ _
    have hfB:wr.frozen? ⟨w.heap.size,0,none⟩=false:=by rw [hw,← hz];exact grow_one_frozen _ _ _
    have hNext:CallsIn (Fence.list [ρ.f 5,ρ.f 7,ρ.f 8,ρ.f 10,ρ.f 11,ρ.f 12,ρ.f 13,ρ.f 14,ρ.f 15,ρ.f 16,ρ.f 17,ρ.f 18,ρ.f 20,ρ.f 30,ρ.f 31,ρ.f 32,ρ.f 33,ρ.f 34,ρ.f 35,ρ.f 40] (some D)) 0 P (ρ.f 32) #[.pointer (some ⟨w.heap.size,0,none⟩)] wr fun e w'=>e=.returned (.int .u64 (R':Int))∧w'=(wr.setCell ⟨w.heap.size,0,none⟩ (.int .u64 (R':Int))).drewN 3:=by
      rw [hR'];exact AnySU.xorshift_NextIn { Ly with } D _ _ R lR wr hcB hfB
    have HW:Hid (wr=grow (putRow (Value.int .u32) (Sort.ahead w n) blk off dk) #[Obj.cells #[.int .u64 (r.toNat:Int)] (ρ.t 53)]):=hw
    have HG:Hid (∀ x,G x=dk[x]!):=hG
    have HR:Hid (bpRest a L M (a+L / 4 * 2 - 1) (3 - t) t (r,dk)=bpRest a L M (a+L / 4 * 2 - 1) 3 0 (UInt64.ofNat L,d)):=hR
    have HN:Hid (R'=(xorNext r).toNat∧O=(xorNext r).toNat &&& (M - 1)):=by
      have e:R'=(xorNext r).toNat:=by rw [hR',hRr,xorNext_toNat]
      exact ⟨e,by rw [hO,e]⟩
    clear hw hG hR hRr hR' hO
    gi_wp2_with (first | (gi_at_fn (ρ.f 32);refine (hNext.more (by omega)).mono ?_;rintro e w' ⟨rfl,rfl⟩))
    all_goals first
      | (have hLO:L≤O:=by omega
         by_cases hEq:a+L / 4 * 2 - 1+t=a+(O - L)
         all_goals
           gi_region_o
           all_goals gi_wp2
           go_roundw
           case rel =>
             refine ⟨t+1,n+4,xorNext r,swp dk (a+L / 4 * 2 - 1+t) (a+(O - L)),by first | rfl | (congr 1 <;> omega),by omega,by rw [size_swp];exact hsk,?_,?_⟩
             · (try rw [hEq])
               rw [HW.out,HN.out.1]
               simp only [HG.out]
               exact step_world (Value.int .u32) w n 4 blk off dk _ _ hblk (by omega) (by omega) _ _ _
             · rw [← HR.out,bp_step a L M _ t r dk (O - L) (by omega) (by rw [← HN.out.2,if_pos (by omega)])]
           case measure=>simp [intOf] <;> omega)
      | (have hLO:¬ L≤O:=by omega
         by_cases hEq:a+L / 4 * 2 - 1+t=a+O
         all_goals
           gi_region_o
           all_goals gi_wp2
           go_roundw
           case rel =>
             refine ⟨t+1,n+4,xorNext r,swp dk (a+L / 4 * 2 - 1+t) (a+O),by first | rfl | (congr 1 <;> omega),by omega,by rw [size_swp];exact hsk,?_,?_⟩
             · (try rw [hEq])
               rw [HW.out,HN.out.1]
               simp only [HG.out]
               exact step_world (Value.int .u32) w n 4 blk off dk _ _ hblk (by omega) (by omega) _ _ _
             · rw [← HR.out,bp_step a L M _ t r dk O (by omega) (by rw [← HN.out.2,if_neg (by omega)])]
           case measure=>simp [intOf] <;> omega)
      | (obtain rfl:t=3:=by omega
         go_end0
         exact ⟨rfl,n,_,by rw [← HR.out,HW.out];rfl⟩)
theorem AnySU.breakPatterns_intIn (Ly:SlW32.n12 P ρ) (D:Nat) (blk off cap a b:Nat) (d:Array Int) (w:World) (hH:Holds (Value.int .u32) w blk off d) (hblk:blk < w.heap.size) (hab:a≤b) (hb:b≤d.size) (hsz:d.size < 4611686018427387904) :
    CallsIn (Fence.list [ρ.f 5,ρ.f 7,ρ.f 8,ρ.f 10,ρ.f 11,ρ.f 12,ρ.f 13,ρ.f 14,ρ.f 15,ρ.f 16,ρ.f 17,ρ.f 18,ρ.f 20,ρ.f 30,ρ.f 31,ρ.f 32,ρ.f 33,ρ.f 34,ρ.f 35,ρ.f 40] (some D)) 3 P (ρ.f 12) #[.slice (some ⟨blk,off,none⟩) d.size cap,.int .i64 a,.int .i64 b] w fun e w' =>
      e=.returned (.tuple #[])∧∃ n os,w'=grow (putRow (Value.int .u32) (Sort.ahead w n) blk off (breakPatterns d a b)) os:=by
  obtain ⟨L,rfl⟩:∃ L,b=a+L:=⟨b - a,by omega⟩
  by_cases h8:8≤L
  · exact AnySU.breakPatterns_int_goIn { Ly with } D blk off cap a L d w hH hblk hb hsz h8
  · have hv:breakPatterns d a (a+L)=d:=by unfold breakPatterns;simp only [Nat.add_sub_cancel_left];rw [if_neg h8]
    rw [hv]
    have HST:Hid (w=grow (putRow (Value.int .u32) (Sort.ahead w 0) blk off d) #[]):=by
      show _=_
      rw [grow_empty,show Sort.ahead w 0=w from rfl,putRow_self _ _ _ _ _ hH]
    clear hH
    have mixed:=Ly.mixed
    have t0:=Ly.t0;have a0:=Ly.a0;have z0:=Ly.z0;have v0:=Ly.v0;have t3:=Ly.t3;have a3:=Ly.a3;have z3:=Ly.z3;have v3:=Ly.v3;have t4:=Ly.t4;have a4:=Ly.a4;have z4:=Ly.z4;have v4:=Ly.v4;have t5:=Ly.t5;have a5:=Ly.a5;have z5:=Ly.z5;have v5:=Ly.v5;have t9:=Ly.t9;have a9:=Ly.a9;have z9:=Ly.z9;have v9:=Ly.v9;have t22:=Ly.t22;have a22:=Ly.a22;have z22:=Ly.z22;have v22:=Ly.v22;have t25:=Ly.t25;have a25:=Ly.a25;have z25:=Ly.z25;have v25:=Ly.v25;have t32:=Ly.t32;have a32:=Ly.a32;have z32:=Ly.z32;have v32:=Ly.v32;have t44:=Ly.t44;have a44:=Ly.a44;have z44:=Ly.z44;have v44:=Ly.v44;have t46:=Ly.t46;have a46:=Ly.a46;have z46:=Ly.z46;have v46:=Ly.v46;have t53:=Ly.t53;have a53:=Ly.a53;have z53:=Ly.z53;have v53:=Ly.v53;have t63:=Ly.t63;have a63:=Ly.a63;have z63:=Ly.z63;have v63:=Ly.v63
    have e329:∀ args w,(callFunc (ρ.f 31) args).run P w=.ok (.enter (ρ.f 31) args) w:=enters_of Ly.f31 (by kernel_rfl) rfl
    have e330:∀ args w,(callFunc (ρ.f 32) args).run P w=.ok (.enter (ρ.f 32) args) w:=enters_of Ly.f32 (by kernel_rfl) rfl
    obtain ⟨_,_,FG⟩:=Ly.f12
    gi_enter FG,SlBodyM.n12_ntmps ρ
    gi_wp2
    go_end0
    exact ⟨rfl,0,#[],HST.out⟩
end Go.Proofs.YtiomgckodmecbaaGreat
namespace Go.Proofs.YtiomgckodmecbaaGreat
open Go.Shelf
variable {P:Program} {ρ:Ren}
open Go.Sort Go.RowKit
theorem AnySU.order2_intIn (Ly:SlW32.n40 P ρ) (D:Nat) (d:Array Int) (len:Nat) (hlen:d.size=len) (blk off cap a b sb so s:Nat) (w:World) (hH:Holds (Value.int .u32) w blk off d) (ha:a < d.size) (hb:b < d.size)
    (hS:Holds (Value.int .i64) w sb so (one s)) (hs:s < 2 ^ 62) :
    CallsIn (Fence.list [ρ.f 5,ρ.f 7,ρ.f 8,ρ.f 10,ρ.f 11,ρ.f 12,ρ.f 13,ρ.f 14,ρ.f 15,ρ.f 16,ρ.f 17,ρ.f 18,ρ.f 20,ρ.f 30,ρ.f 31,ρ.f 32,ρ.f 33,ρ.f 34,ρ.f 35,ρ.f 40] (some D)) 2 P (ρ.f 40) #[.slice (some ⟨blk,off,none⟩) len cap,.int .i64 a,.int .i64 b,.pointer (some ⟨sb,so,none⟩)] w fun e w' =>
      e=.returned (.tuple #[.int .i64 (order2 ltInt d a b s).1,.int .i64 (order2 ltInt d a b s).2.1])∧∃ n,w'=putRow (Value.int .i64) (Sort.ahead w n) sb so (one (order2 ltInt d a b s).2.2):=by
  subst hlen
  replace hs:s < 4611686018427387904:=by omega
  have ca:=(hH a ha).1
  have cb:=(hH b hb).1
  obtain ⟨cs,fs⟩:=one_cell hS
  have ea:d[a]! = d[a]:=getElem!_pos d a ha
  have eb:d[b]! = d[b]:=getElem!_pos d b hb
  have mixed:=Ly.mixed
  have t0:=Ly.t0;have a0:=Ly.a0;have z0:=Ly.z0;have v0:=Ly.v0;have t3:=Ly.t3;have a3:=Ly.a3;have z3:=Ly.z3;have v3:=Ly.v3;have t4:=Ly.t4;have a4:=Ly.a4;have z4:=Ly.z4;have v4:=Ly.v4;have t22:=Ly.t22;have a22:=Ly.a22;have z22:=Ly.z22;have v22:=Ly.v22;have t25:=Ly.t25;have a25:=Ly.a25;have z25:=Ly.z25;have v25:=Ly.v25;have t57:=Ly.t57;have a57:=Ly.a57;have z57:=Ly.z57;have v57:=Ly.v57
  have e216:∀ args w,(callFunc (ρ.f 16) args).run P w=.ok (.enter (ρ.f 16) args) w:=Ly.f16.enters rfl
  obtain ⟨_,_,FG⟩:=Ly.f40
  gi_enter FG,SlBodyM.n40_ntmps ρ
  gi_wp2
  gi_big_quiet_th_o (first | (gi_at_fn (ρ.f 16);refine CallsIn.quiet_of_same (AnySU.cmp_Less_intIn { Ly with } D _ _ _)))
  all_goals (try gi_wp2)
  all_goals first
    | (have hlt:ltInt d[b] d[a]=true:=by assumption
       have e2:order2 ltInt d a b s=(b,a,s+1):=by simp [order2,ea,eb,hlt]
       go_ret2
       rw [e2]
       refine ⟨rfl,nq,?_⟩
       rw [putRow_ahead,← one_set hS (s+1)]
       first | rfl | simp [drew_eq_ahead] | simp [World.drewN,Sort.ahead,World.setCell])
    | (have hlt:ltInt d[b] d[a]=false:=by assumption
       have e2:order2 ltInt d a b s=(a,b,s):=by simp [order2,ea,eb,hlt]
       go_ret2
       rw [e2]
       refine ⟨rfl,nq,?_⟩
       rw [putRow_ahead,putRow_self _ _ _ _ _ hS]
       rfl)
theorem AnySU.median_intIn (Ly:SlW32.n34 P ρ) (D:Nat) (d:Array Int) (len:Nat) (hlen:d.size=len) (blk off cap a b c sb so s:Nat) (w:World) (hH:Holds (Value.int .u32) w blk off d) (ha:a < d.size) (hb:b < d.size) (hc:c < d.size) (hne:sb≠blk)
    (hS:Holds (Value.int .i64) w sb so (one s)) (hs:s+3 < 2 ^ 62) :
    CallsIn (Fence.list [ρ.f 5,ρ.f 7,ρ.f 8,ρ.f 10,ρ.f 11,ρ.f 12,ρ.f 13,ρ.f 14,ρ.f 15,ρ.f 16,ρ.f 17,ρ.f 18,ρ.f 20,ρ.f 30,ρ.f 31,ρ.f 32,ρ.f 33,ρ.f 34,ρ.f 35,ρ.f 40] (some D)) 3 P (ρ.f 34) #[.slice (some ⟨blk,off,none⟩) len cap,.int .i64 a,.int .i64 b,.int .i64 c,.pointer (some ⟨sb,so,none⟩)] w fun e w' =>
      e=.returned (.int .i64 (median ltInt d a b c s).1)∧∃ n,w'=putRow (Value.int .i64) (Sort.ahead w n) sb so (one (median ltInt d a b c s).2):=by
  subst hlen
  have l1:=order2_lt d s ha hb
  have s1:=order2_swaps d a b s
  have l2:=order2_lt d (order2 ltInt d a b s).2.2 l1.2 hc
  have s2:=order2_swaps d (order2 ltInt d a b s).2.1 c (order2 ltInt d a b s).2.2
  have mixed:=Ly.mixed
  have t0:=Ly.t0;have a0:=Ly.a0;have z0:=Ly.z0;have v0:=Ly.v0;have t3:=Ly.t3;have a3:=Ly.a3;have z3:=Ly.z3;have v3:=Ly.v3;have t4:=Ly.t4;have a4:=Ly.a4;have z4:=Ly.z4;have v4:=Ly.v4;have t22:=Ly.t22;have a22:=Ly.a22;have z22:=Ly.z22;have v22:=Ly.v22;have t25:=Ly.t25;have a25:=Ly.a25;have z25:=Ly.z25;have v25:=Ly.v25;have t57:=Ly.t57;have a57:=Ly.a57;have z57:=Ly.z57;have v57:=Ly.v57;have t64:=Ly.t64;have a64:=Ly.a64;have z64:=Ly.z64;have v64:=Ly.v64
  have e343:∀ args w,(callFunc (ρ.f 40) args).run P w=.ok (.enter (ρ.f 40) args) w:=Ly.f40.enters rfl
  obtain ⟨_,_,FG⟩:=Ly.f34
  gi_enter FG,SlBodyM.n34_ntmps ρ
  gi_wp2_with (gi_at_fn_has (ρ.f 40) (Value.int .i64 (b:Int));refine (AnySU.order2_intIn { Ly with } D d _ rfl blk off cap a b sb so s w hH ha hb hS (by omega)).mono ?_;rintro e w' ⟨rfl,n1,rfl⟩)
  gi_wp2_with (gi_at_fn_has (ρ.f 40) (Value.int .i64 (c:Int));refine (AnySU.order2_intIn { Ly with } D d _ rfl blk off cap (order2 ltInt d a b s).2.1 c sb so (order2 ltInt d a b s).2.2 _ (holds_asideU hH hne) l1.2 hc (holds_one hS) (by omega)).mono ?_;rintro e w' ⟨rfl,n2,rfl⟩)
  gi_wp2_with (gi_at_fn_has (ρ.f 40) (Value.int .i64 ((order2 ltInt d a b s).1:Int));refine (AnySU.order2_intIn { Ly with } D d _ rfl blk off cap (order2 ltInt d a b s).1 (order2 ltInt d (order2 ltInt d a b s).2.1 c (order2 ltInt d a b s).2.2).1 sb so (order2 ltInt d (order2 ltInt d a b s).2.1 c (order2 ltInt d a b s).2.2).2.2 _
    (holds_asideU (holds_asideU hH hne) hne) l1.1 l2.1 (holds_one (holds_one hS)) (by omega)).mono ?_;rintro e w' ⟨rfl,n3,rfl⟩)
  go_ret
  refine ⟨rfl,n1+(n2+n3),?_⟩
  rw [one_one,one_one]
  rfl
end Go.Proofs.YtiomgckodmecbaaGreat
namespace Go.Proofs.YtiomgckodmecbaaGreat
open Go.Shelf
variable {P:Program} {ρ:Ren}
open Go.Sort Go.RowKit
theorem AnySU.medianAdjacent_intIn (Ly:SlW32.n33 P ρ) (D:Nat) (d:Array Int) (len:Nat) (hlen:d.size=len) (blk off cap a sb so s:Nat) (w:World) (hH:Holds (Value.int .u32) w blk off d) (ha0:1≤a) (ha:a+1 < d.size) (hsz:d.size < 2 ^ 62) (hne:sb≠blk)
  (hS:Holds (Value.int .i64) w sb so (one s)) (hs:s+3 < 2 ^ 62) :
  CallsIn (Fence.list [ρ.f 5,ρ.f 7,ρ.f 8,ρ.f 10,ρ.f 11,ρ.f 12,ρ.f 13,ρ.f 14,ρ.f 15,ρ.f 16,ρ.f 17,ρ.f 18,ρ.f 20,ρ.f 30,ρ.f 31,ρ.f 32,ρ.f 33,ρ.f 34,ρ.f 35,ρ.f 40] (some D)) 4 P (ρ.f 33) #[.slice (some ⟨blk,off,none⟩) len cap,.int .i64 a,.pointer (some ⟨sb,so,none⟩)] w fun e w' =>
   e=.returned (.int .i64 (medianAdjacent ltInt d a s).1)∧∃ n,w'=putRow (Value.int .i64) (Sort.ahead w n) sb so (one (medianAdjacent ltInt d a s).2):=by
 subst hlen
 replace hsz:d.size < 4611686018427387904:=by omega
 have mixed:=Ly.mixed
 have t0:=Ly.t0;have a0:=Ly.a0;have z0:=Ly.z0;have v0:=Ly.v0;have t3:=Ly.t3;have a3:=Ly.a3;have z3:=Ly.z3;have v3:=Ly.v3;have t4:=Ly.t4;have a4:=Ly.a4;have z4:=Ly.z4;have v4:=Ly.v4;have t22:=Ly.t22;have a22:=Ly.a22;have z22:=Ly.z22;have v22:=Ly.v22;have t25:=Ly.t25;have a25:=Ly.a25;have z25:=Ly.z25;have v25:=Ly.v25;have t57:=Ly.t57;have a57:=Ly.a57;have z57:=Ly.z57;have v57:=Ly.v57;have t64:=Ly.t64;have a64:=Ly.a64;have z64:=Ly.z64;have v64:=Ly.v64
 have e332:∀ args w,(callFunc (ρ.f 34) args).run P w=.ok (.enter (ρ.f 34) args) w:=Ly.f34.enters rfl
 obtain ⟨_,_,FG⟩:=Ly.f33
 gi_enter FG,SlBodyM.n33_ntmps ρ
 gi_wp2_with (gi_at_fn (ρ.f 34);rw [show ((a:Int) - 1)=((a - 1:Nat):Int) by omega,show ((a:Int)+1)=((a+1:Nat):Int) by omega];refine (AnySU.median_intIn { Ly with } D d _ rfl blk off cap (a - 1) a (a+1) sb so s w hH (by omega) (by omega) ha hne hS hs).mono ?_;rintro e w' ⟨rfl,n1,rfl⟩)
 go_ret
 exact ⟨rfl,n1,rfl⟩
end Go.Proofs.YtiomgckodmecbaaGreat
namespace Go.Proofs.YtiomgckodmecbaaGreat
open Go.Shelf
variable {P:Program} {ρ:Ren}
open Go.Sort Go.RowKit
theorem pivot_world_intInU (Ly:SlW32.n33 P ρ) (D:Nat) (blk off cap:Nat) (d:Array Int) (w:World) (hH:Holds (Value.int .u32) w blk off d) (hblk:blk < w.heap.size) (hsz:d.size < 4611686018427387904) :
    ∃ Wc:Nat→Nat→World,
      w.alloc (.cells #[.int .i64 0] (ρ.t 3))=Wc 0 0 ∧
      (∀ N S:Nat,(Wc N S).cell? ⟨w.heap.size,0,none⟩=some (.int .i64 (S:Int))) ∧
      (∀ N S:Nat,∃ os,Wc N S=grow (Sort.ahead w N) os) ∧
      (∀ x s N:Nat,1≤x→x+1 < d.size→s+3 < 4611686018427387904→CallsIn (Fence.list [ρ.f 5,ρ.f 7,ρ.f 8,ρ.f 10,ρ.f 11,ρ.f 12,ρ.f 13,ρ.f 14,ρ.f 15,ρ.f 16,ρ.f 17,ρ.f 18,ρ.f 20,ρ.f 30,ρ.f 31,ρ.f 32,ρ.f 33,ρ.f 34,ρ.f 35,ρ.f 40] (some D)) 4 P (ρ.f 33) #[.slice (some ⟨blk,off,none⟩) d.size cap,.int .i64 (x:Int),.pointer (some ⟨w.heap.size,0,none⟩)] (Wc N s) fun e w' =>
        e=.returned (.int .i64 ((medianAdjacent ltInt d x s).1:Int))∧∃ N',w'=Wc N' (medianAdjacent ltInt d x s).2) ∧
      (∀ x y z s N:Nat,x < d.size→y < d.size→z < d.size→s+3 < 4611686018427387904→CallsIn (Fence.list [ρ.f 5,ρ.f 7,ρ.f 8,ρ.f 10,ρ.f 11,ρ.f 12,ρ.f 13,ρ.f 14,ρ.f 15,ρ.f 16,ρ.f 17,ρ.f 18,ρ.f 20,ρ.f 30,ρ.f 31,ρ.f 32,ρ.f 33,ρ.f 34,ρ.f 35,ρ.f 40] (some D)) 3 P (ρ.f 34) #[.slice (some ⟨blk,off,none⟩) d.size cap,.int .i64 (x:Int),.int .i64 (y:Int),.int .i64 (z:Int),.pointer (some ⟨w.heap.size,0,none⟩)] (Wc N s) fun e w' =>
        e=.returned (.int .i64 ((median ltInt d x y z s).1:Int))∧∃ N',w'=Wc N' (median ltInt d x y z s).2):=by
  have hne:w.heap.size≠blk:=by omega
  have hH0:Holds (Value.int .u32) (w.alloc (.cells #[.int .i64 0] (ρ.t 3))) blk off d:=by rw [alloc_eq_grow];exact holds_grow _ _ _ _ _ _ hblk hH
  have hS0:Holds (Value.int .i64) (w.alloc (.cells #[.int .i64 0] (ρ.t 3))) w.heap.size 0 (one 0):=fun j hj=>by
    obtain rfl:j=0:=by simpa using hj
    simp
  refine ⟨fun N S=>putRow (Value.int .i64) (Sort.ahead (w.alloc (.cells #[.int .i64 0] (ρ.t 3))) N) w.heap.size 0 (one S),(putRow_self _ _ _ _ _ hS0).symm,fun N S=>(one_cell (holds_one (n:=N) (t:=S) hS0)).1,fun N S=>counter_growTM (ρ.t 3) w N S,?_,?_⟩
  · intro x s N h1 h2 hs
    refine (AnySU.medianAdjacent_intIn { Ly with } D d _ rfl blk off cap x w.heap.size 0 s _ (holds_asideU hH0 hne) h1 h2 (by omega) hne (holds_one hS0) (by omega)).mono ?_
    rintro e w' ⟨he,n,hw⟩
    exact ⟨he,N+n,by rw [hw,one_one]⟩
  · intro x y z s N h1 h2 h3 hs
    refine (AnySU.median_intIn { Ly with } D d _ rfl blk off cap x y z w.heap.size 0 s _ (holds_asideU hH0 hne) h1 h2 h3 hne (holds_one hS0) (by omega)).mono ?_
    rintro e w' ⟨he,n,hw⟩
    exact ⟨he,N+n,by rw [hw,one_one]⟩
theorem AnySU.choosePivot_intIn (Ly:SlW32.n13 P ρ) (D:Nat) (blk off cap a b:Nat) (d:Array Int) (w:World) (hH:Holds (Value.int .u32) w blk off d) (hblk:blk < w.heap.size) (hab:a < b) (hb:b≤d.size) (hsz:d.size < 4611686018427387904) :
    CallsIn (Fence.list [ρ.f 5,ρ.f 7,ρ.f 8,ρ.f 10,ρ.f 11,ρ.f 12,ρ.f 13,ρ.f 14,ρ.f 15,ρ.f 16,ρ.f 17,ρ.f 18,ρ.f 20,ρ.f 30,ρ.f 31,ρ.f 32,ρ.f 33,ρ.f 34,ρ.f 35,ρ.f 40] (some D)) 5 P (ρ.f 13) #[.slice (some ⟨blk,off,none⟩) d.size cap,.int .i64 a,.int .i64 b] w fun e w' =>
      e=.returned (.tuple #[.int .i64 (choosePivot ltInt d a b).1,.int .i64 (hintCode (choosePivot ltInt d a b).2)])∧∃ n os,w'=grow (Sort.ahead w n) os:=by
  obtain ⟨Wc,hW0,cS,hG,MA,MD⟩:=pivot_world_intInU { Ly with } D blk off cap d w hH hblk hsz
  clear hH
  rw [choosePivot_eq]
  obtain ⟨I,hI⟩:∃ I:Nat,I=a+(b - a) / 4 * 1:=⟨_,rfl⟩
  obtain ⟨J,hJ⟩:∃ J:Nat,J=a+(b - a) / 4 * 2:=⟨_,rfl⟩
  obtain ⟨K,hK⟩:∃ K:Nat,K=a+(b - a) / 4 * 3:=⟨_,rfl⟩
  have eI:((a:Int)+((b:Int) - (a:Int)) / 4)=(I:Int):=by omega
  have eJ:((a:Int)+((b:Int) - (a:Int)) / 4 * 2)=(J:Int):=by omega
  have eK:((a:Int)+((b:Int) - (a:Int)) / 4 * 3)=(K:Int):=by omega
  by_cases h8:b - a ≥ 8
  · by_cases h50:b - a ≥ 50
    ·
      obtain ⟨i1,s1,h1⟩:∃ i1 s1,medianAdjacent ltInt d I 0=(i1,s1):=⟨_,_,rfl⟩
      obtain ⟨j1,s2,h2⟩:∃ j1 s2,medianAdjacent ltInt d J s1=(j1,s2):=⟨_,_,rfl⟩
      obtain ⟨k1,s3,h3⟩:∃ k1 s3,medianAdjacent ltInt d K s2=(k1,s3):=⟨_,_,rfl⟩
      obtain ⟨p,s,h4⟩:∃ p s,median ltInt d i1 j1 k1 s3=(p,s):=⟨_,_,rfl⟩
      have hraw:rawPivot ltInt d a b=(p,s):=by simp only [rawPivot,if_pos h8,if_pos h50,← hI,← hJ,← hK,h1,h2,h3,h4]
      have m1:=medianAdjacent_mem ltInt d I 0;rw [h1] at m1
      have m2:=medianAdjacent_mem ltInt d J s1;rw [h2] at m2
      have m3:=medianAdjacent_mem ltInt d K s2;rw [h3] at m3
      have n1:=medianAdjacent_count ltInt d I 0;rw [h1] at n1
      have n2:=medianAdjacent_count ltInt d J s1;rw [h2] at n2
      have n3:=medianAdjacent_count ltInt d K s2;rw [h3] at n3
      simp only [] at m1 m2 m3 n1 n2 n3
      have c1:CallsIn (Fence.list [ρ.f 5,ρ.f 7,ρ.f 8,ρ.f 10,ρ.f 11,ρ.f 12,ρ.f 13,ρ.f 14,ρ.f 15,ρ.f 16,ρ.f 17,ρ.f 18,ρ.f 20,ρ.f 30,ρ.f 31,ρ.f 32,ρ.f 33,ρ.f 34,ρ.f 35,ρ.f 40] (some D)) 4 P (ρ.f 33) #[.slice (some ⟨blk,off,none⟩) d.size cap,.int .i64 (I:Int),.pointer (some ⟨w.heap.size,0,none⟩)] (Wc 0 0) fun e w'=>e=.returned (.int .i64 (i1:Int))∧∃ N',w'=Wc N' s1:=by
        have h:=MA I 0 0 (by omega) (by omega) (by omega);rw [h1] at h;exact h
      have c2:∀ N,CallsIn (Fence.list [ρ.f 5,ρ.f 7,ρ.f 8,ρ.f 10,ρ.f 11,ρ.f 12,ρ.f 13,ρ.f 14,ρ.f 15,ρ.f 16,ρ.f 17,ρ.f 18,ρ.f 20,ρ.f 30,ρ.f 31,ρ.f 32,ρ.f 33,ρ.f 34,ρ.f 35,ρ.f 40] (some D)) 4 P (ρ.f 33) #[.slice (some ⟨blk,off,none⟩) d.size cap,.int .i64 (J:Int),.pointer (some ⟨w.heap.size,0,none⟩)] (Wc N s1) fun e w'=>e=.returned (.int .i64 (j1:Int))∧∃ N',w'=Wc N' s2:=fun N=>by
        have h:=MA J s1 N (by omega) (by omega) (by omega);rw [h2] at h;exact h
      have c3:∀ N,CallsIn (Fence.list [ρ.f 5,ρ.f 7,ρ.f 8,ρ.f 10,ρ.f 11,ρ.f 12,ρ.f 13,ρ.f 14,ρ.f 15,ρ.f 16,ρ.f 17,ρ.f 18,ρ.f 20,ρ.f 30,ρ.f 31,ρ.f 32,ρ.f 33,ρ.f 34,ρ.f 35,ρ.f 40] (some D)) 4 P (ρ.f 33) #[.slice (some ⟨blk,off,none⟩) d.size cap,.int .i64 (K:Int),.pointer (some ⟨w.heap.size,0,none⟩)] (Wc N s2) fun e w'=>e=.returned (.int .i64 (k1:Int))∧∃ N',w'=Wc N' s3:=fun N=>by
        have h:=MA K s2 N (by omega) (by omega) (by omega);rw [h3] at h;exact h
      have c4:∀ N,CallsIn (Fence.list [ρ.f 5,ρ.f 7,ρ.f 8,ρ.f 10,ρ.f 11,ρ.f 12,ρ.f 13,ρ.f 14,ρ.f 15,ρ.f 16,ρ.f 17,ρ.f 18,ρ.f 20,ρ.f 30,ρ.f 31,ρ.f 32,ρ.f 33,ρ.f 34,ρ.f 35,ρ.f 40] (some D)) 3 P (ρ.f 34) #[.slice (some ⟨blk,off,none⟩) d.size cap,.int .i64 (i1:Int),.int .i64 (j1:Int),.int .i64 (k1:Int),.pointer (some ⟨w.heap.size,0,none⟩)] (Wc N s3) fun e w'=>e=.returned (.int .i64 (p:Int))∧∃ N',w'=Wc N' s:=fun N=>by
        have h:=MD i1 j1 k1 s3 N (by omega) (by omega) (by omega) (by omega);rw [h4] at h;exact h
      rw [hraw]
      obtain ⟨Hc,hHc⟩:∃ Hc:Int,Hc=hintCode (hintOf s):=⟨_,rfl⟩
      have hh0:s=0→Hc=1:=fun h=>by rw [hHc,h];rfl
      have hh12:s=12→Hc=2:=fun h=>by rw [hHc,h];rfl
      have hhx:s≠0→s≠12→Hc=0:=fun h1 h2=>by rw [hHc];unfold hintOf;rw [if_neg h1,if_neg h2];rfl
      show CallsIn (Fence.list [ρ.f 5,ρ.f 7,ρ.f 8,ρ.f 10,ρ.f 11,ρ.f 12,ρ.f 13,ρ.f 14,ρ.f 15,ρ.f 16,ρ.f 17,ρ.f 18,ρ.f 20,ρ.f 30,ρ.f 31,ρ.f 32,ρ.f 33,ρ.f 34,ρ.f 35,ρ.f 40] (some D)) 5 P (ρ.f 13) _ w fun e w'=>e=.returned (.tuple #[.int .i64 (p:Int),.int .i64 (hintCode (hintOf s))])∧∃ n os,w'=grow (Sort.ahead w n) os
      rw [← hHc]
      clear hHc hraw
      clear h1 h2 h3 h4 MA MD hI hJ hK m1 m2 m3
      have mixed:=Ly.mixed
      have t0:=Ly.t0;have a0:=Ly.a0;have z0:=Ly.z0;have v0:=Ly.v0;have t3:=Ly.t3;have a3:=Ly.a3;have z3:=Ly.z3;have v3:=Ly.v3;have t4:=Ly.t4;have a4:=Ly.a4;have z4:=Ly.z4;have v4:=Ly.v4;have t22:=Ly.t22;have a22:=Ly.a22;have z22:=Ly.z22;have v22:=Ly.v22;have t25:=Ly.t25;have a25:=Ly.a25;have z25:=Ly.z25;have v25:=Ly.v25;have t35:=Ly.t35;have a35:=Ly.a35;have z35:=Ly.z35;have v35:=Ly.v35;have t57:=Ly.t57;have a57:=Ly.a57;have z57:=Ly.z57;have v57:=Ly.v57;have t64:=Ly.t64;have a64:=Ly.a64;have z64:=Ly.z64;have v64:=Ly.v64
      have e331:∀ args w,(callFunc (ρ.f 33) args).run P w=.ok (.enter (ρ.f 33) args) w:=Ly.f33.enters rfl
      have e332:∀ args w,(callFunc (ρ.f 34) args).run P w=.ok (.enter (ρ.f 34) args) w:=Ly.f34.enters rfl
      obtain ⟨_,_,FG⟩:=Ly.f13
      gi_enter FG,SlBodyM.n13_ntmps ρ
      gi_wp2_with (first
        | (gi_at_fn_has (ρ.f 33) (Value.int .i64 (I:Int));refine (c1.more (by omega)).mono ?_;rintro e w' ⟨rfl,N1,rfl⟩)
        | (gi_at_fn_has (ρ.f 33) (Value.int .i64 (J:Int));refine ((c2 _).more (by omega)).mono ?_;rintro e w' ⟨rfl,N2,rfl⟩)
        | (gi_at_fn_has (ρ.f 33) (Value.int .i64 (K:Int));refine ((c3 _).more (by omega)).mono ?_;rintro e w' ⟨rfl,N3,rfl⟩)
        | (gi_at_fn (ρ.f 34);refine ((c4 _).more (by omega)).mono ?_;rintro e w' ⟨rfl,N4,rfl⟩))
      all_goals
        go_ret2
        refine ⟨?_,_,hG _ _⟩
        first
          | (have e0:(s:Int)=0:=of_beq_int (by assumption)
             rw [hh0 (by omega)];rfl)
          | (have e1:(s:Int)=12:=of_beq_int (by assumption)
             rw [hh12 (by omega)];rfl)
          | (have e0:(s:Int)≠0:=of_bne_int (by assumption)
             have e1:(s:Int)≠12:=of_bne_int (by assumption)
             rw [hhx (by omega) (by omega)];rfl)
          | (rw [hh0 (by omega)];rfl)
    ·
      obtain ⟨p,s,h4⟩:∃ p s,median ltInt d I J K 0=(p,s):=⟨_,_,rfl⟩
      have hraw:rawPivot ltInt d a b=(p,s):=by simp only [rawPivot,if_pos h8,if_neg h50,← hI,← hJ,← hK,h4]
      have c4:CallsIn (Fence.list [ρ.f 5,ρ.f 7,ρ.f 8,ρ.f 10,ρ.f 11,ρ.f 12,ρ.f 13,ρ.f 14,ρ.f 15,ρ.f 16,ρ.f 17,ρ.f 18,ρ.f 20,ρ.f 30,ρ.f 31,ρ.f 32,ρ.f 33,ρ.f 34,ρ.f 35,ρ.f 40] (some D)) 3 P (ρ.f 34) #[.slice (some ⟨blk,off,none⟩) d.size cap,.int .i64 (I:Int),.int .i64 (J:Int),.int .i64 (K:Int),.pointer (some ⟨w.heap.size,0,none⟩)] (Wc 0 0) fun e w'=>e=.returned (.int .i64 (p:Int))∧∃ N',w'=Wc N' s:=by
        have h:=MD I J K 0 0 (by omega) (by omega) (by omega) (by omega);rw [h4] at h;exact h
      rw [hraw]
      obtain ⟨Hc,hHc⟩:∃ Hc:Int,Hc=hintCode (hintOf s):=⟨_,rfl⟩
      have hh0:s=0→Hc=1:=fun h=>by rw [hHc,h];rfl
      have hh12:s=12→Hc=2:=fun h=>by rw [hHc,h];rfl
      have hhx:s≠0→s≠12→Hc=0:=fun h1 h2=>by rw [hHc];unfold hintOf;rw [if_neg h1,if_neg h2];rfl
      show CallsIn (Fence.list [ρ.f 5,ρ.f 7,ρ.f 8,ρ.f 10,ρ.f 11,ρ.f 12,ρ.f 13,ρ.f 14,ρ.f 15,ρ.f 16,ρ.f 17,ρ.f 18,ρ.f 20,ρ.f 30,ρ.f 31,ρ.f 32,ρ.f 33,ρ.f 34,ρ.f 35,ρ.f 40] (some D)) 5 P (ρ.f 13) _ w fun e w'=>e=.returned (.tuple #[.int .i64 (p:Int),.int .i64 (hintCode (hintOf s))])∧∃ n os,w'=grow (Sort.ahead w n) os
      rw [← hHc]
      clear hHc hraw
      clear h4 MA MD hI hJ hK
      have mixed:=Ly.mixed
      have t0:=Ly.t0;have a0:=Ly.a0;have z0:=Ly.z0;have v0:=Ly.v0;have t3:=Ly.t3;have a3:=Ly.a3;have z3:=Ly.z3;have v3:=Ly.v3;have t4:=Ly.t4;have a4:=Ly.a4;have z4:=Ly.z4;have v4:=Ly.v4;have t22:=Ly.t22;have a22:=Ly.a22;have z22:=Ly.z22;have v22:=Ly.v22;have t25:=Ly.t25;have a25:=Ly.a25;have z25:=Ly.z25;have v25:=Ly.v25;have t35:=Ly.t35;have a35:=Ly.a35;have z35:=Ly.z35;have v35:=Ly.v35;have t57:=Ly.t57;have a57:=Ly.a57;have z57:=Ly.z57;have v57:=Ly.v57;have t64:=Ly.t64;have a64:=Ly.a64;have z64:=Ly.z64;have v64:=Ly.v64
      have e331:∀ args w,(callFunc (ρ.f 33) args).run P w=.ok (.enter (ρ.f 33) args) w:=Ly.f33.enters rfl
      have e332:∀ args w,(callFunc (ρ.f 34) args).run P w=.ok (.enter (ρ.f 34) args) w:=Ly.f34.enters rfl
      obtain ⟨_,_,FG⟩:=Ly.f13
      gi_enter FG,SlBodyM.n13_ntmps ρ
      gi_wp2_with (first | (gi_at_fn (ρ.f 34);refine (c4.more (by omega)).mono ?_;rintro e w' ⟨rfl,N4,rfl⟩))
      all_goals
        go_ret2
        refine ⟨?_,_,hG _ _⟩
        first
          | (have e0:(s:Int)=0:=of_beq_int (by assumption)
             rw [hh0 (by omega)];rfl)
          | (have e1:(s:Int)=12:=of_beq_int (by assumption)
             rw [hh12 (by omega)];rfl)
          | (have e0:(s:Int)≠0:=of_bne_int (by assumption)
             have e1:(s:Int)≠12:=of_bne_int (by assumption)
             rw [hhx (by omega) (by omega)];rfl)
          | (rw [hh0 (by omega)];rfl)
  ·
    obtain ⟨p,hp⟩:∃ p:Nat,p=J:=⟨_,rfl⟩
    obtain ⟨s,hs⟩:∃ s:Nat,s=0:=⟨_,rfl⟩
    have hraw:rawPivot ltInt d a b=(p,s):=by simp only [rawPivot,if_neg h8,← hJ,hp,hs]
    rw [hraw]
    obtain ⟨Hc,hHc⟩:∃ Hc:Int,Hc=hintCode (hintOf s):=⟨_,rfl⟩
    have hh0:s=0→Hc=1:=fun h=>by rw [hHc,h];rfl
    have hh12:s=12→Hc=2:=fun h=>by rw [hHc,h];rfl
    have hhx:s≠0→s≠12→Hc=0:=fun h1 h2=>by rw [hHc];unfold hintOf;rw [if_neg h1,if_neg h2];rfl
    show CallsIn (Fence.list [ρ.f 5,ρ.f 7,ρ.f 8,ρ.f 10,ρ.f 11,ρ.f 12,ρ.f 13,ρ.f 14,ρ.f 15,ρ.f 16,ρ.f 17,ρ.f 18,ρ.f 20,ρ.f 30,ρ.f 31,ρ.f 32,ρ.f 33,ρ.f 34,ρ.f 35,ρ.f 40] (some D)) 5 P (ρ.f 13) _ w fun e w'=>e=.returned (.tuple #[.int .i64 (p:Int),.int .i64 (hintCode (hintOf s))])∧∃ n os,w'=grow (Sort.ahead w n) os
    rw [← hHc]
    clear hHc hraw
    subst hp
    clear MA MD hI hJ hK
    have hW0':w.alloc (.cells #[.int .i64 0] (ρ.t 3))=Wc 0 s:=by rw [hs];exact hW0
    clear hW0
    have mixed:=Ly.mixed
    have t0:=Ly.t0;have a0:=Ly.a0;have z0:=Ly.z0;have v0:=Ly.v0;have t3:=Ly.t3;have a3:=Ly.a3;have z3:=Ly.z3;have v3:=Ly.v3;have t4:=Ly.t4;have a4:=Ly.a4;have z4:=Ly.z4;have v4:=Ly.v4;have t22:=Ly.t22;have a22:=Ly.a22;have z22:=Ly.z22;have v22:=Ly.v22;have t25:=Ly.t25;have a25:=Ly.a25;have z25:=Ly.z25;have v25:=Ly.v25;have t35:=Ly.t35;have a35:=Ly.a35;have z35:=Ly.z35;have v35:=Ly.v35;have t57:=Ly.t57;have a57:=Ly.a57;have z57:=Ly.z57;have v57:=Ly.v57;have t64:=Ly.t64;have a64:=Ly.a64;have z64:=Ly.z64;have v64:=Ly.v64
    have e331:∀ args w,(callFunc (ρ.f 33) args).run P w=.ok (.enter (ρ.f 33) args) w:=Ly.f33.enters rfl
    have e332:∀ args w,(callFunc (ρ.f 34) args).run P w=.ok (.enter (ρ.f 34) args) w:=Ly.f34.enters rfl
    obtain ⟨_,_,FG⟩:=Ly.f13
    gi_enter FG,SlBodyM.n13_ntmps ρ
    gi_wp2
    all_goals
      go_ret2
      refine ⟨?_,_,hG _ _⟩
      first
        | (have e0:(s:Int)=0:=of_beq_int (by assumption)
           rw [hh0 (by omega)];rfl)
        | (have e1:(s:Int)=12:=of_beq_int (by assumption)
           rw [hh12 (by omega)];rfl)
        | (have e0:(s:Int)≠0:=of_bne_int (by assumption)
           have e1:(s:Int)≠12:=of_bne_int (by assumption)
           rw [hhx (by omega) (by omega)];rfl)
        | (rw [hh0 (by omega)];rfl)
end Go.Proofs.YtiomgckodmecbaaGreat
namespace Go.Proofs.YtiomgckodmecbaaGreat
open Go.Shelf
variable {P:Program} {ρ:Ren}
open Go.RowKit Go.Sort
section
variable {α:Type} [Inhabited α]
variable (lt:α→α→Bool)
end
theorem AnySU.partitionEqual_intIn (Ly:SlW32.n17 P ρ) (D:Nat) (blk off cap a b pivot:Nat) (d:Array Int) (w:World) (hH:Holds (Value.int .u32) w blk off d) (hap:a≤pivot) (hpb:pivot < b) (hb:b≤d.size) (hsz:d.size < 4611686018427387904) :
  CallsIn (Fence.list [ρ.f 5,ρ.f 7,ρ.f 8,ρ.f 10,ρ.f 11,ρ.f 12,ρ.f 13,ρ.f 14,ρ.f 15,ρ.f 16,ρ.f 17,ρ.f 18,ρ.f 20,ρ.f 30,ρ.f 31,ρ.f 32,ρ.f 33,ρ.f 34,ρ.f 35,ρ.f 40] (some D)) 2 P (ρ.f 17) #[.slice (some ⟨blk,off,none⟩) d.size cap,.int .i64 a,.int .i64 b,.int .i64 pivot] w fun e w' =>
   e=.returned (.int .i64 (Sort.partitionEqual Sort.ltInt d a b pivot).1)∧∃ n,w'=(putRow (Value.int .u32) w blk off (Sort.partitionEqual Sort.ltInt d a b pivot).2).drewN n:=by
 have hla:a < d.size:=by omega
 have hlp:pivot < d.size:=by omega
 obtain ⟨G,hG⟩:∃ G:Nat→Int,∀ j,G j=d[j]!:=⟨fun j=>d[j]!,fun _=>rfl⟩
 have ca:w.cell? ⟨blk,off+a,none⟩=some (.int .u32 (G a)):=by rw [hG];exact (hH a hla).1
 have fa:=(hH a hla).2
 have cp:w.cell? ⟨blk,off+pivot,none⟩=some (.int .u32 (G pivot)):=by rw [hG];exact (hH pivot hlp).1
 have fp:=(hH pivot hlp).2
 obtain ⟨v',hy'⟩:=cell?_setCell_some (w:=w) (p:=⟨blk,off+a,none⟩) (x:=.int .u32 (G pivot)) (q:=⟨blk,off+pivot,none⟩) cp
 have AG:Hid (∀ j,G j=d[j]!):=hG
 have AH:Hid (Holds (Value.int .u32) w blk off d):=hH
 clear hG hH
 have mixed:=Ly.mixed
 have t0:=Ly.t0;have a0:=Ly.a0;have z0:=Ly.z0;have v0:=Ly.v0;have t3:=Ly.t3;have a3:=Ly.a3;have z3:=Ly.z3;have v3:=Ly.v3;have t4:=Ly.t4;have a4:=Ly.a4;have z4:=Ly.z4;have v4:=Ly.v4;have t22:=Ly.t22;have a22:=Ly.a22;have z22:=Ly.z22;have v22:=Ly.v22;have t25:=Ly.t25;have a25:=Ly.a25;have z25:=Ly.z25;have v25:=Ly.v25
 have e216:∀ args w,(callFunc (ρ.f 16) args).run P w=.ok (.enter (ρ.f 16) args) w:=Ly.f16.enters rfl
 obtain ⟨_,_,FG⟩:=Ly.f17
 gi_enter FG,SlBodyM.n17_ntmps ρ
 gi_wp2
 gi_region_o
 gi_wp2
 gi_loopw [9,10] (fun vi vj wr=>∃ (i j n:Nat) (dk:Array Int),vi=.int .i64 i∧vj=.int .i64 j∧a < i∧i≤j+1∧j < b∧dk.size=d.size∧wr=(putRow (Value.int .u32) w blk off dk).drewN n ∧
   Sort.partEqLoop Sort.ltInt a i j dk=Sort.partEqLoop Sort.ltInt a (a+1) (b - 1) (Sort.swp d a pivot))
  (fun vi vj _=>(intOf vj).toNat+1 - (intOf vi).toNat)
 case atStart =>
  refine ⟨a+1,b - 1,1,Sort.swp d a pivot,by go_num,by go_num,by omega,by omega,by omega,size_swp _ _ _,?_,rfl⟩
  have e:=swap_worldC (Value.int .u32) w blk off d 0 a pivot hla hlp
  rw [putRow_self _ w blk off d AH.out] at e
  rw [AG.out a,AG.out pivot]
  exact e
 case round =>
  obtain ⟨i,j,n,dk,rfl,rfl,hai,hij,hjb,hs,hw,heq⟩:=hrel
  clear ca fa cp fp hy' v' AG
  rename World=>W1
  have hHk:Holds (Value.int .u32) W1 blk off dk:=by
   rw [hw]
   exact holds_putRow (Value.int .u32) w blk off d dk AH.out hs
  obtain ⟨Gk,hG⟩:∃ Gk:Nat→Int,∀ t,Gk t=dk[t]!:=⟨fun t=>dk[t]!,fun _=>rfl⟩
  have hc:∀ t,t < d.size→W1.cell? ⟨blk,off+t,none⟩=some (.int .u32 (Gk t)):=fun t ht=>by rw [hG];exact (hHk t (by omega)).1
  have hf:∀ t,t < d.size→W1.frozen? ⟨blk,off+t,none⟩=false:=fun t ht=>(hHk t (by omega)).2
  have AG:Hid (∀ t,Gk t=dk[t]!):=hG
  have AW:Hid (W1=(putRow (Value.int .u32) w blk off dk).drewN n):=hw
  have AE:Hid (Sort.partEqLoop Sort.ltInt a i j dk=Sort.partEqLoop Sort.ltInt a (a+1) (b - 1) (Sort.swp d a pivot)):=heq
  clear hG hw heq hHk
  gi_wp2
  gi_loopw [9] (fun vi w1=>∃ (i' n1:Nat),vi=.int .i64 i'∧i≤i'∧i'≤j+1∧w1=W1.drewN n1 ∧
    Hid (Sort.scanUp (fun x=>!Sort.ltInt dk[a]! x) dk j i'=Sort.scanUp (fun x=>!Sort.ltInt dk[a]! x) dk j i))
   (fun vi _=>j+1 - (intOf vi).toNat)
  case atStart=>exact ⟨i,0,rfl,Nat.le_refl _,hij,rfl,rfl⟩
  case round =>
   obtain ⟨i',n1,rfl,hii,hij',hw1,hsc⟩:=hrel
   have hcw:∀ t,t < d.size→wr.cell? ⟨blk,off+t,none⟩=some (.int .u32 (Gk t)):=fun t ht=>by rw [hw1];exact hc t ht
   have HW1:Hid (wr=W1.drewN n1):=hw1
   clear hw1
   by_cases hle:i'≤j
   ·gi_wp2_with fail
    gi_big_quiet_th_o (first | (gi_at_fn (ρ.f 16);refine CallsIn.quiet_of_same (AnySU.cmp_Less_intIn { Ly with } D _ _ _)))
    gi_wp2
    ·
     have ht:(!Sort.ltInt (Gk a) (Gk i'))=true:=by assumption
     go_roundw
     case rel=>exact ⟨i'+1,n1+nq,by go_num,by omega,by omega,by rw [HW1.out,World.drewN_drewN],(scanUp_go (fun x=>!Sort.ltInt dk[a]! x) dk j i' hle (by rw [← AG.out a,← AG.out i'];exact ht)).symm.trans hsc.out⟩
     case measure=>simp [intOf] <;> omega
    ·
     have ht:(!Sort.ltInt (Gk a) (Gk i'))=false:=by assumption
     have hi2:Hid (i'=Sort.scanUp (fun x=>!Sort.ltInt dk[a]! x) dk j i):=(scanUp_end (fun x=>!Sort.ltInt dk[a]! x) dk j i' (Or.inr (by rw [← AG.out a,← AG.out i'];exact ht))).symm.trans hsc.out
     clear ht
     have hw2:wr.drewN nq=W1.drewN (n1+nq):=by rw [HW1.out,World.drewN_drewN]
     clear hcw HW1 hsc
     gi_loopw [10] (fun vj w2=>∃ (j' n2:Nat),vj=.int .i64 j'∧j'≤j∧i'≤j'+1∧w2=W1.drewN n2 ∧
       Hid (Sort.scanDown (fun x=>Sort.ltInt dk[a]! x) dk i' j'=Sort.scanDown (fun x=>Sort.ltInt dk[a]! x) dk i' j))
      (fun vj _=>(intOf vj).toNat)
     case atStart=>exact ⟨j,n1+nq,rfl,Nat.le_refl _,hij',hw2,rfl⟩
     case round =>
      clear hw2
      obtain ⟨j',n2,rfl,hjj,hij2,hw2,hsd⟩:=hrel
      have hcw:∀ t,t < d.size→wr.cell? ⟨blk,off+t,none⟩=some (.int .u32 (Gk t)):=fun t ht=>by rw [hw2];exact hc t ht
      have HW2:Hid (wr=W1.drewN n2):=hw2
      clear hw2
      by_cases hle2:i'≤j'
      ·gi_wp2_with fail
       gi_big_quiet_th_o (first | (gi_at_fn (ρ.f 16);refine CallsIn.quiet_of_same (AnySU.cmp_Less_intIn { Ly with } D _ _ _)))
       gi_wp2
       ·
        have ht:Sort.ltInt (Gk a) (Gk j')=true:=by assumption
        go_roundw
        case rel=>exact ⟨j' - 1,n2+nq,by go_num,by omega,by omega,by rw [HW2.out,World.drewN_drewN],(scanDown_go (fun x=>Sort.ltInt dk[a]! x) dk i' j' hle2 (by omega) (by rw [← AG.out a,← AG.out j'];exact ht)).symm.trans hsd.out⟩
        case measure=>simp [intOf] <;> omega
       ·
        have ht:Sort.ltInt (Gk a) (Gk j')=false:=by assumption
        have hj2:Hid (j'=Sort.scanDown (fun x=>Sort.ltInt dk[a]! x) dk i' j):=(scanDown_end (fun x=>Sort.ltInt dk[a]! x) dk i' j' (Or.inr (by rw [← AG.out a,← AG.out j'];exact ht))).symm.trans hsd.out
        clear hcw hsd ht
        have hw3:wr.drewN nq=W1.drewN (n2+nq):=by rw [HW2.out,World.drewN_drewN]
        generalize wr.drewN nq=W3 at hw3 ⊢
        have hc3:∀ t,t < d.size→W3.cell? ⟨blk,off+t,none⟩=some (.int .u32 (Gk t)):=fun t ht=>by rw [hw3];exact hc t ht
        have hf3:∀ t,t < d.size→W3.frozen? ⟨blk,off+t,none⟩=false:=fun t ht=>by rw [hw3];exact hf t ht
        have HW3:Hid (W3=W1.drewN (n2+nq)):=hw3
        clear hw3
        obtain ⟨v3,hy3⟩:=cell?_setCell_some (w:=W3) (p:=⟨blk,off+i',none⟩) (x:=.int .u32 (Gk j')) (q:=⟨blk,off+j',none⟩) (hc3 j' (by omega))
        have hlt3:=scans_lt Sort.ltInt a i j dk (by omega) hi2.out hj2.out hle2
        gi_wp2
        gi_region_o
        all_goals gi_wp2
        all_goals go_roundw
        case rel =>
         refine ⟨i'+1,j' - 1,n+(n2+nq)+1,Sort.swp dk i' j',by go_num,by go_num,by omega,by omega,by omega,by rw [size_swp];exact hs,?_,?_⟩
         ·rw [HW3.out,AW.out,World.drewN_drewN,AG.out i',AG.out j']
          exact swap_worldC (Value.int .u32) w blk off dk _ i' j' (by omega) (by omega)
         ·rw [← AE.out];exact (partEq_go Sort.ltInt a i j dk hi2.out hj2.out (by omega)).symm
        case measure=>simp [intOf] <;> omega
      ·gi_wp2_with fail
       gi_big_quiet_th_o (first | (gi_at_fn (ρ.f 16);refine CallsIn.quiet_of_same (AnySU.cmp_Less_intIn { Ly with } D _ _ _)))
       have hj2:Hid (j'=Sort.scanDown (fun x=>Sort.ltInt dk[a]! x) dk i' j):=(scanDown_end (fun x=>Sort.ltInt dk[a]! x) dk i' j' (Or.inl hle2)).symm.trans hsd.out
       clear hcw hsd
       have hw3:wr.drewN nq=W1.drewN (n2+nq):=by rw [HW2.out,World.drewN_drewN]
       generalize wr.drewN nq=W3 at hw3 ⊢
       have hc3:∀ t,t < d.size→W3.cell? ⟨blk,off+t,none⟩=some (.int .u32 (Gk t)):=fun t ht=>by rw [hw3];exact hc t ht
       have hf3:∀ t,t < d.size→W3.frozen? ⟨blk,off+t,none⟩=false:=fun t ht=>by rw [hw3];exact hf t ht
       have HW3:Hid (W3=W1.drewN (n2+nq)):=hw3
       clear hw3
       gi_wp2
       go_ret
       have e:=partEq_break Sort.ltInt a i j dk hi2.out hj2.out (by omega)
       refine ⟨?_,n+(n2+nq),?_⟩
       ·unfold Sort.partitionEqual;rw [← AE.out,e];rfl
       ·unfold Sort.partitionEqual;rw [← AE.out,e,HW3.out,AW.out,World.drewN_drewN]
   ·gi_wp2_with fail
    gi_big_quiet_th_o (first | (gi_at_fn (ρ.f 16);refine CallsIn.quiet_of_same (AnySU.cmp_Less_intIn { Ly with } D _ _ _)))
    gi_wp2
    have hi2:Hid (i'=Sort.scanUp (fun x=>!Sort.ltInt dk[a]! x) dk j i):=(scanUp_end (fun x=>!Sort.ltInt dk[a]! x) dk j i' (Or.inl hle)).symm.trans hsc.out
    have hw2:wr.drewN nq=W1.drewN (n1+nq):=by rw [HW1.out,World.drewN_drewN]
    clear hcw HW1 hsc
    gi_loopw [10] (fun vj w2=>∃ (j' n2:Nat),vj=.int .i64 j'∧j'≤j∧i'≤j'+1∧w2=W1.drewN n2 ∧
      Hid (Sort.scanDown (fun x=>Sort.ltInt dk[a]! x) dk i' j'=Sort.scanDown (fun x=>Sort.ltInt dk[a]! x) dk i' j))
     (fun vj _=>(intOf vj).toNat)
    case atStart=>exact ⟨j,n1+nq,rfl,Nat.le_refl _,hij',hw2,rfl⟩
    case round =>
     clear hw2
     obtain ⟨j',n2,rfl,hjj,hij2,hw2,hsd⟩:=hrel
     have hcw:∀ t,t < d.size→wr.cell? ⟨blk,off+t,none⟩=some (.int .u32 (Gk t)):=fun t ht=>by rw [hw2];exact hc t ht
     have HW2:Hid (wr=W1.drewN n2):=hw2
     clear hw2
     by_cases hle2:i'≤j'
     ·exfalso;omega
     ·gi_wp2_with fail
      gi_big_quiet_th_o (first | (gi_at_fn (ρ.f 16);refine CallsIn.quiet_of_same (AnySU.cmp_Less_intIn { Ly with } D _ _ _)))
      have hj2:Hid (j'=Sort.scanDown (fun x=>Sort.ltInt dk[a]! x) dk i' j):=(scanDown_end (fun x=>Sort.ltInt dk[a]! x) dk i' j' (Or.inl hle2)).symm.trans hsd.out
      clear hcw hsd
      have hw3:wr.drewN nq=W1.drewN (n2+nq):=by rw [HW2.out,World.drewN_drewN]
      generalize wr.drewN nq=W3 at hw3 ⊢
      have hc3:∀ t,t < d.size→W3.cell? ⟨blk,off+t,none⟩=some (.int .u32 (Gk t)):=fun t ht=>by rw [hw3];exact hc t ht
      have hf3:∀ t,t < d.size→W3.frozen? ⟨blk,off+t,none⟩=false:=fun t ht=>by rw [hw3];exact hf t ht
      have HW3:Hid (W3=W1.drewN (n2+nq)):=hw3
      clear hw3
      gi_wp2
      go_ret
      have e:=partEq_break Sort.ltInt a i j dk hi2.out hj2.out (by omega)
      refine ⟨?_,n+(n2+nq),?_⟩
      ·unfold Sort.partitionEqual;rw [← AE.out,e];rfl
      ·unfold Sort.partitionEqual;rw [← AE.out,e,HW3.out,AW.out,World.drewN_drewN]
theorem AnySU.partitionEqualOrdered_intIn (Ly:SlW32.n17 P ρ) (D:Nat) (blk off cap a b pivot:Nat) (d:Array Int) (w:World) (hH:Holds (Value.int .u32) w blk off d) (hap:a≤pivot) (hpb:pivot < b) (hb:b≤d.size) (hsz:d.size < 4611686018427387904) :
  CallsIn (Fence.list [ρ.f 5,ρ.f 7,ρ.f 8,ρ.f 10,ρ.f 11,ρ.f 12,ρ.f 13,ρ.f 14,ρ.f 15,ρ.f 16,ρ.f 17,ρ.f 18,ρ.f 20,ρ.f 30,ρ.f 31,ρ.f 32,ρ.f 33,ρ.f 34,ρ.f 35,ρ.f 40] (some D)) 2 P (ρ.f 17) #[.slice (some ⟨blk,off,none⟩) d.size cap,.int .i64 a,.int .i64 b,.int .i64 pivot] w fun e w' =>
   e=.returned (.int .i64 (Sort.partitionEqual Sort.ltInt d a b pivot).1)∧∃ n,w'=putRow (Value.int .u32) (Sort.ahead w n) blk off (Sort.partitionEqual Sort.ltInt d a b pivot).2 :=
 (AnySU.partitionEqual_intIn { Ly with } D blk off cap a b pivot d w hH hap hpb hb hsz).mono fun _ _ ⟨he,n,hw⟩=>⟨he,n,hw⟩
end Go.Proofs.YtiomgckodmecbaaGreat
namespace Go.Proofs.YtiomgckodmecbaaGreat
open Go.Shelf
variable {P:Program} {ρ:Ren}
open Go.RowKit Go.Sort
section
variable {α:Type} [Inhabited α] (lt:α→α→Bool)
end
theorem AnySU.partition_intIn (Ly:SlW32.n18 P ρ) (D:Nat) (blk off cap a b pivot:Nat) (d:Array Int) (w:World) (hH:Holds (Value.int .u32) w blk off d) (hap:a≤pivot) (hpb:pivot < b) (hb:b≤d.size) (hsz:d.size < 4611686018427387904) :
  CallsIn (Fence.list [ρ.f 5,ρ.f 7,ρ.f 8,ρ.f 10,ρ.f 11,ρ.f 12,ρ.f 13,ρ.f 14,ρ.f 15,ρ.f 16,ρ.f 17,ρ.f 18,ρ.f 20,ρ.f 30,ρ.f 31,ρ.f 32,ρ.f 33,ρ.f 34,ρ.f 35,ρ.f 40] (some D)) 2 P (ρ.f 18) #[.slice (some ⟨blk,off,none⟩) d.size cap,.int .i64 a,.int .i64 b,.int .i64 pivot] w fun e w' =>
   e=.returned (.tuple #[.int .i64 (Sort.partition Sort.ltInt d a b pivot).1,.bool (Sort.partition Sort.ltInt d a b pivot).2.1])∧∃ n,w'=(putRow (Value.int .u32) w blk off (Sort.partition Sort.ltInt d a b pivot).2.2).drewN n:=by
 have hla:a < d.size:=by omega
 have hlp:pivot < d.size:=by omega
 obtain ⟨G,hG⟩:∃ G:Nat→Int,∀ j,G j=d[j]!:=⟨fun j=>d[j]!,fun _=>rfl⟩
 have ca:w.cell? ⟨blk,off+a,none⟩=some (.int .u32 (G a)):=by rw [hG];exact (hH a hla).1
 have fa:=(hH a hla).2
 have cp:w.cell? ⟨blk,off+pivot,none⟩=some (.int .u32 (G pivot)):=by rw [hG];exact (hH pivot hlp).1
 have fp:=(hH pivot hlp).2
 obtain ⟨v',hy'⟩:=cell?_setCell_some (w:=w) (p:=⟨blk,off+a,none⟩) (x:=.int .u32 (G pivot)) (q:=⟨blk,off+pivot,none⟩) cp
 have hw:((w.setCell ⟨blk,off+a,none⟩ (.int .u32 (G pivot))).setCell ⟨blk,off+pivot,none⟩ (.int .u32 (G a))).drew=(putRow (Value.int .u32) w blk off (Sort.swp d a pivot)).drewN 1:=by
  have e:=swap_worldC (Value.int .u32) w blk off d 0 a pivot hla hlp
  rw [putRow_self _ w blk off d hH] at e
  rw [hG a,hG pivot]
  exact e
 have AH:Hid (Holds (Value.int .u32) w blk off d):=hH
 have HW0:=Hid.mk' hw
 clear hG hH hw
 have mixed:=Ly.mixed
 have t0:=Ly.t0;have a0:=Ly.a0;have z0:=Ly.z0;have v0:=Ly.v0;have t3:=Ly.t3;have a3:=Ly.a3;have z3:=Ly.z3;have v3:=Ly.v3;have t4:=Ly.t4;have a4:=Ly.a4;have z4:=Ly.z4;have v4:=Ly.v4;have t22:=Ly.t22;have a22:=Ly.a22;have z22:=Ly.z22;have v22:=Ly.v22;have t25:=Ly.t25;have a25:=Ly.a25;have z25:=Ly.z25;have v25:=Ly.v25
 have e216:∀ args w,(callFunc (ρ.f 16) args).run P w=.ok (.enter (ρ.f 16) args) w:=Ly.f16.enters rfl
 obtain ⟨_,_,FG⟩:=Ly.f18
 gi_enter FG,SlBodyM.n18_ntmps ρ
 gi_wp2
 gi_region_o
 gi_wp2
 clear ca fa cp fp hy' v'
 have hw:=HW0.out
 clear HW0
 generalize ((w.setCell ⟨blk,off+a,none⟩ (.int .u32 (G pivot))).setCell ⟨blk,off+pivot,none⟩ (.int .u32 (G a))).drew=W1 at hw ⊢
 obtain ⟨dk,hdk⟩:∃ dk,dk=Sort.swp d a pivot:=⟨_,rfl⟩
 obtain ⟨n,hn⟩:∃ n:Nat,n=1:=⟨_,rfl⟩
 rw [← hdk,← hn] at hw
 clear hn
 have hs:dk.size=d.size:=by rw [hdk,size_swp]
 have e1:((a:Int)+1)=((a+1:Nat):Int):=by omega
 have e2:((b:Int) - 1)=((b - 1:Nat):Int):=by omega
 rw [e1,e2]
 clear e1 e2
 obtain ⟨i,hi⟩:∃ i,i=a+1:=⟨_,rfl⟩
 obtain ⟨j,hj⟩:∃ j,j=b - 1:=⟨_,rfl⟩
 rw [← hi,← hj]
 have hai:a < i:=by omega
 have hij:i≤j+1:=by omega
 have hjb:j < b:=by omega
 have HI:=Hid.mk' hi
 have HJ:=Hid.mk' hj
 have HDK:=Hid.mk' hdk
 clear hi hj hdk
 have hHk:Holds (Value.int .u32) W1 blk off dk:=by
  rw [hw]
  exact holds_putRow (Value.int .u32) w blk off d dk AH.out hs
 obtain ⟨Gk,hG⟩:∃ Gk:Nat→Int,∀ t,Gk t=dk[t]!:=⟨fun t=>dk[t]!,fun _=>rfl⟩
 have hc:∀ t,t < d.size→W1.cell? ⟨blk,off+t,none⟩=some (.int .u32 (Gk t)):=fun t ht=>by rw [hG];exact (hHk t (by omega)).1
 have hf:∀ t,t < d.size→W1.frozen? ⟨blk,off+t,none⟩=false:=fun t ht=>(hHk t (by omega)).2
 have AG:Hid (∀ t,Gk t=dk[t]!):=hG
 have AW:Hid (W1=(putRow (Value.int .u32) w blk off dk).drewN n):=hw
 clear hG hw hHk
 gi_loopw [10] (fun vi w1=>∃ (i' n1:Nat),vi=.int .i64 i'∧i≤i'∧i'≤j+1∧w1=W1.drewN n1 ∧
   Hid (Sort.scanUp (fun x=>Sort.ltInt x dk[a]!) dk j i'=Sort.scanUp (fun x=>Sort.ltInt x dk[a]!) dk j i))
  (fun vi _=>j+1 - (intOf vi).toNat)
 case atStart=>exact ⟨i,0,rfl,Nat.le_refl _,hij,rfl,rfl⟩
 case round =>
  obtain ⟨i',n1,rfl,hii,hij',hw1,hsc⟩:=hrel
  have hcw:∀ t,t < d.size→wr.cell? ⟨blk,off+t,none⟩=some (.int .u32 (Gk t)):=fun t ht=>by rw [hw1];exact hc t ht
  have HW1:Hid (wr=W1.drewN n1):=hw1
  clear hw1
  by_cases hle:i'≤j
  ·gi_wp2_with fail
   gi_big_quiet_th_o (first | (gi_at_fn (ρ.f 16);refine CallsIn.quiet_of_same (AnySU.cmp_Less_intIn { Ly with } D _ _ _)))
   gi_wp2
   ·
    have ht:Sort.ltInt (Gk i') (Gk a)=true:=by assumption
    go_roundw
    case rel=>exact ⟨i'+1,n1+nq,by go_num,by omega,by omega,by rw [HW1.out,World.drewN_drewN],(scanUp_go (fun x=>Sort.ltInt x dk[a]!) dk j i' hle (by rw [← AG.out a,← AG.out i'];exact ht)).symm.trans hsc.out⟩
    case measure=>simp [intOf] <;> omega
   ·
    have ht:Sort.ltInt (Gk i') (Gk a)=false:=by assumption
    have hi2:Hid (i'=Sort.scanUp (fun x=>Sort.ltInt x dk[a]!) dk j i):=(scanUp_end (fun x=>Sort.ltInt x dk[a]!) dk j i' (Or.inr (by rw [← AG.out a,← AG.out i'];exact ht))).symm.trans hsc.out
    clear ht
    have hw2:wr.drewN nq=W1.drewN (n1+nq):=by rw [HW1.out,World.drewN_drewN]
    clear hcw HW1 hsc
    gi_loopw [11] (fun vj w2=>∃ (j' n2:Nat),vj=.int .i64 j'∧j'≤j∧i'≤j'+1∧w2=W1.drewN n2 ∧
      Hid (Sort.scanDown (fun x=>!Sort.ltInt x dk[a]!) dk i' j'=Sort.scanDown (fun x=>!Sort.ltInt x dk[a]!) dk i' j))
     (fun vj _=>(intOf vj).toNat)
    case atStart=>exact ⟨j,n1+nq,rfl,Nat.le_refl _,hij',hw2,rfl⟩
    case round =>
     clear hw2
     obtain ⟨j',n2,rfl,hjj,hij2,hw2,hsd⟩:=hrel
     have hcw:∀ t,t < d.size→wr.cell? ⟨blk,off+t,none⟩=some (.int .u32 (Gk t)):=fun t ht=>by rw [hw2];exact hc t ht
     have HW2:Hid (wr=W1.drewN n2):=hw2
     clear hw2
     by_cases hle2:i'≤j'
     ·gi_wp2_with fail
      gi_big_quiet_th_o (first | (gi_at_fn (ρ.f 16);refine CallsIn.quiet_of_same (AnySU.cmp_Less_intIn { Ly with } D _ _ _)))
      gi_wp2
      ·
       have ht:(!Sort.ltInt (Gk j') (Gk a))=true:=by assumption
       go_roundw
       case rel=>exact ⟨j' - 1,n2+nq,by go_num,by omega,by omega,by rw [HW2.out,World.drewN_drewN],(scanDown_go (fun x=>!Sort.ltInt x dk[a]!) dk i' j' hle2 (by omega) (by rw [← AG.out a,← AG.out j'];exact ht)).symm.trans hsd.out⟩
       case measure=>simp [intOf] <;> omega
      ·
       have ht:(!Sort.ltInt (Gk j') (Gk a))=false:=by assumption
       have hj2:Hid (j'=Sort.scanDown (fun x=>!Sort.ltInt x dk[a]!) dk i' j):=(scanDown_end (fun x=>!Sort.ltInt x dk[a]!) dk i' j' (Or.inr (by rw [← AG.out a,← AG.out j'];exact ht))).symm.trans hsd.out
       clear hcw hsd ht
       have hw3:wr.drewN nq=W1.drewN (n2+nq):=by rw [HW2.out,World.drewN_drewN]
       generalize wr.drewN nq=W3 at hw3 ⊢
       have hc3:∀ t,t < d.size→W3.cell? ⟨blk,off+t,none⟩=some (.int .u32 (Gk t)):=fun t ht=>by rw [hw3];exact hc t ht
       have hf3:∀ t,t < d.size→W3.frozen? ⟨blk,off+t,none⟩=false:=fun t ht=>by rw [hw3];exact hf t ht
       have HW3:Hid (W3=W1.drewN (n2+nq)):=hw3
       clear hw3
       obtain ⟨v3,hy3⟩:=cell?_setCell_some (w:=W3) (p:=⟨blk,off+i',none⟩) (x:=.int .u32 (Gk j')) (q:=⟨blk,off+j',none⟩) (hc3 j' (by omega))
       have hlt3:=part_scans_lt Sort.ltInt a i j dk (by omega) hi2.out hj2.out hle2
       gi_wp2
       gi_region_o
       all_goals gi_wp2
       obtain ⟨R,hR⟩:∃ R,R=Sort.partLoop Sort.ltInt a (i'+1) (j' - 1) (Sort.swp dk i' j'):=⟨_,rfl⟩
       have HP:Hid (Sort.partition Sort.ltInt d a b pivot=(R.1,false,Sort.swp R.2 R.1 a)):=by rw [hR];exact part_first_go Sort.ltInt d a b pivot HI.out HJ.out HDK.out hi2.out hj2.out (by omega)
       have hw0:((W3.setCell ⟨blk,off+i',none⟩ (.int .u32 (Gk j'))).setCell ⟨blk,off+j',none⟩ (.int .u32 (Gk i'))).drew=(putRow (Value.int .u32) w blk off (Sort.swp dk i' j')).drewN (n+(n2+nq)+1):=by
        rw [HW3.out,AW.out,World.drewN_drewN,AG.out i',AG.out j']
        exact swap_worldC (Value.int .u32) w blk off dk _ i' j' (by omega) (by omega)
       have HR:Hid (R=Sort.partLoop Sort.ltInt a (i'+1) (j' - 1) (Sort.swp dk i' j')):=hR
       clear hR hc hf hc3 hf3 hy3 HW3 AW AG hi2 hj2
       gi_loopw [10,11] (fun vi vj wr=>∃ (i j n:Nat) (dk:Array Int),vi=.int .i64 i∧vj=.int .i64 j∧a < i∧i≤j+1∧j < b∧dk.size=d.size∧wr=(putRow (Value.int .u32) w blk off dk).drewN n ∧
         Sort.partLoop Sort.ltInt a i j dk=R)
        (fun vi vj _=>(intOf vj).toNat+1 - (intOf vi).toNat)
       case atStart=>exact ⟨i'+1,j' - 1,_,Sort.swp dk i' j',by go_num,by go_num,by omega,by omega,by omega,by rw [size_swp];exact hs,hw0,HR.out.symm⟩
       case round =>
        clear hw0 HR
        obtain ⟨i,j,n,dk,rfl,rfl,hai,hij,hjb,hs,hw,heq⟩:=hrel
        rename World=>W1
        have AE:Hid (Sort.partLoop Sort.ltInt a i j dk=R):=heq
        clear heq
        have hHk:Holds (Value.int .u32) W1 blk off dk:=by
         rw [hw]
         exact holds_putRow (Value.int .u32) w blk off d dk AH.out hs
        obtain ⟨Gk,hG⟩:∃ Gk:Nat→Int,∀ t,Gk t=dk[t]!:=⟨fun t=>dk[t]!,fun _=>rfl⟩
        have hc:∀ t,t < d.size→W1.cell? ⟨blk,off+t,none⟩=some (.int .u32 (Gk t)):=fun t ht=>by rw [hG];exact (hHk t (by omega)).1
        have hf:∀ t,t < d.size→W1.frozen? ⟨blk,off+t,none⟩=false:=fun t ht=>(hHk t (by omega)).2
        have AG:Hid (∀ t,Gk t=dk[t]!):=hG
        have AW:Hid (W1=(putRow (Value.int .u32) w blk off dk).drewN n):=hw
        clear hG hw hHk
        gi_wp2
        gi_loopw [10] (fun vi w1=>∃ (i' n1:Nat),vi=.int .i64 i'∧i≤i'∧i'≤j+1∧w1=W1.drewN n1 ∧
          Hid (Sort.scanUp (fun x=>Sort.ltInt x dk[a]!) dk j i'=Sort.scanUp (fun x=>Sort.ltInt x dk[a]!) dk j i))
         (fun vi _=>j+1 - (intOf vi).toNat)
        case atStart=>exact ⟨i,0,rfl,Nat.le_refl _,hij,rfl,rfl⟩
        case round =>
         obtain ⟨i',n1,rfl,hii,hij',hw1,hsc⟩:=hrel
         have hcw:∀ t,t < d.size→wr.cell? ⟨blk,off+t,none⟩=some (.int .u32 (Gk t)):=fun t ht=>by rw [hw1];exact hc t ht
         have HW1:Hid (wr=W1.drewN n1):=hw1
         clear hw1
         by_cases hle:i'≤j
         ·gi_wp2_with fail
          gi_big_quiet_th_o (first | (gi_at_fn (ρ.f 16);refine CallsIn.quiet_of_same (AnySU.cmp_Less_intIn { Ly with } D _ _ _)))
          gi_wp2
          ·
           have ht:Sort.ltInt (Gk i') (Gk a)=true:=by assumption
           go_roundw
           case rel=>exact ⟨i'+1,n1+nq,by go_num,by omega,by omega,by rw [HW1.out,World.drewN_drewN],(scanUp_go (fun x=>Sort.ltInt x dk[a]!) dk j i' hle (by rw [← AG.out a,← AG.out i'];exact ht)).symm.trans hsc.out⟩
           case measure=>simp [intOf] <;> omega
          ·
           have ht:Sort.ltInt (Gk i') (Gk a)=false:=by assumption
           have hi2:Hid (i'=Sort.scanUp (fun x=>Sort.ltInt x dk[a]!) dk j i):=(scanUp_end (fun x=>Sort.ltInt x dk[a]!) dk j i' (Or.inr (by rw [← AG.out a,← AG.out i'];exact ht))).symm.trans hsc.out
           clear ht
           have hw2:wr.drewN nq=W1.drewN (n1+nq):=by rw [HW1.out,World.drewN_drewN]
           clear hcw HW1 hsc
           gi_loopw [11] (fun vj w2=>∃ (j' n2:Nat),vj=.int .i64 j'∧j'≤j∧i'≤j'+1∧w2=W1.drewN n2 ∧
             Hid (Sort.scanDown (fun x=>!Sort.ltInt x dk[a]!) dk i' j'=Sort.scanDown (fun x=>!Sort.ltInt x dk[a]!) dk i' j))
            (fun vj _=>(intOf vj).toNat)
           case atStart=>exact ⟨j,n1+nq,rfl,Nat.le_refl _,hij',hw2,rfl⟩
           case round =>
            clear hw2
            obtain ⟨j',n2,rfl,hjj,hij2,hw2,hsd⟩:=hrel
            have hcw:∀ t,t < d.size→wr.cell? ⟨blk,off+t,none⟩=some (.int .u32 (Gk t)):=fun t ht=>by rw [hw2];exact hc t ht
            have HW2:Hid (wr=W1.drewN n2):=hw2
            clear hw2
            by_cases hle2:i'≤j'
            ·gi_wp2_with fail
             gi_big_quiet_th_o (first | (gi_at_fn (ρ.f 16);refine CallsIn.quiet_of_same (AnySU.cmp_Less_intIn { Ly with } D _ _ _)))
             gi_wp2
             ·
              have ht:(!Sort.ltInt (Gk j') (Gk a))=true:=by assumption
              go_roundw
              case rel=>exact ⟨j' - 1,n2+nq,by go_num,by omega,by omega,by rw [HW2.out,World.drewN_drewN],(scanDown_go (fun x=>!Sort.ltInt x dk[a]!) dk i' j' hle2 (by omega) (by rw [← AG.out a,← AG.out j'];exact ht)).symm.trans hsd.out⟩
              case measure=>simp [intOf] <;> omega
             ·
              have ht:(!Sort.ltInt (Gk j') (Gk a))=false:=by assumption
              have hj2:Hid (j'=Sort.scanDown (fun x=>!Sort.ltInt x dk[a]!) dk i' j):=(scanDown_end (fun x=>!Sort.ltInt x dk[a]!) dk i' j' (Or.inr (by rw [← AG.out a,← AG.out j'];exact ht))).symm.trans hsd.out
              clear hcw hsd ht
              have hw3:wr.drewN nq=W1.drewN (n2+nq):=by rw [HW2.out,World.drewN_drewN]
              generalize wr.drewN nq=W3 at hw3 ⊢
              have hc3:∀ t,t < d.size→W3.cell? ⟨blk,off+t,none⟩=some (.int .u32 (Gk t)):=fun t ht=>by rw [hw3];exact hc t ht
              have hf3:∀ t,t < d.size→W3.frozen? ⟨blk,off+t,none⟩=false:=fun t ht=>by rw [hw3];exact hf t ht
              have HW3:Hid (W3=W1.drewN (n2+nq)):=hw3
              clear hw3
              obtain ⟨v3,hy3⟩:=cell?_setCell_some (w:=W3) (p:=⟨blk,off+i',none⟩) (x:=.int .u32 (Gk j')) (q:=⟨blk,off+j',none⟩) (hc3 j' (by omega))
              have hlt3:=part_scans_lt Sort.ltInt a i j dk (by omega) hi2.out hj2.out hle2
              gi_wp2
              gi_region_o
              all_goals gi_wp2
              all_goals go_roundw
              case rel =>
               refine ⟨i'+1,j' - 1,n+(n2+nq)+1,Sort.swp dk i' j',by go_num,by go_num,by omega,by omega,by omega,by rw [size_swp];exact hs,?_,?_⟩
               ·rw [HW3.out,AW.out,World.drewN_drewN,AG.out i',AG.out j']
                exact swap_worldC (Value.int .u32) w blk off dk _ i' j' (by omega) (by omega)
               ·exact (part_go Sort.ltInt a i j dk hi2.out hj2.out (by omega)).symm.trans AE.out
              case measure=>simp [intOf] <;> omega
            ·gi_wp2_with fail
             gi_big_quiet_th_o (first | (gi_at_fn (ρ.f 16);refine CallsIn.quiet_of_same (AnySU.cmp_Less_intIn { Ly with } D _ _ _)))
             have hj2:Hid (j'=Sort.scanDown (fun x=>!Sort.ltInt x dk[a]!) dk i' j):=(scanDown_end (fun x=>!Sort.ltInt x dk[a]!) dk i' j' (Or.inl hle2)).symm.trans hsd.out
             clear hcw hsd
             have hw3:wr.drewN nq=W1.drewN (n2+nq):=by rw [HW2.out,World.drewN_drewN]
             generalize wr.drewN nq=W3 at hw3 ⊢
             have hc3:∀ t,t < d.size→W3.cell? ⟨blk,off+t,none⟩=some (.int .u32 (Gk t)):=fun t ht=>by rw [hw3];exact hc t ht
             have hf3:∀ t,t < d.size→W3.frozen? ⟨blk,off+t,none⟩=false:=fun t ht=>by rw [hw3];exact hf t ht
             have HW3:Hid (W3=W1.drewN (n2+nq)):=hw3
             clear hw3
             obtain ⟨v3,hy3⟩:=cell?_setCell_some (w:=W3) (p:=⟨blk,off+j',none⟩) (x:=.int .u32 (Gk a)) (q:=⟨blk,off+a,none⟩) (hc3 a (by omega))
             have hlj:j' < d.size:=by omega
             gi_wp2
             gi_region_o
             all_goals gi_wp2
             all_goals go_ret2
             have e:Sort.partition Sort.ltInt d a b pivot=(j',false,Sort.swp dk j' a):=by
              have e0:=(part_break Sort.ltInt a i j dk hi2.out hj2.out (by omega)).symm.trans AE.out
              rw [HP.out,← e0]
             refine ⟨?_,n+(n2+nq)+1,?_⟩
             ·rw [e];rfl
             ·rw [e,HW3.out,AW.out,World.drewN_drewN,AG.out a,AG.out j']
              exact swap_worldC (Value.int .u32) w blk off dk _ j' a (by omega) (by omega)
         ·gi_wp2_with fail
          gi_big_quiet_th_o (first | (gi_at_fn (ρ.f 16);refine CallsIn.quiet_of_same (AnySU.cmp_Less_intIn { Ly with } D _ _ _)))
          gi_wp2
          have hi2:Hid (i'=Sort.scanUp (fun x=>Sort.ltInt x dk[a]!) dk j i):=(scanUp_end (fun x=>Sort.ltInt x dk[a]!) dk j i' (Or.inl hle)).symm.trans hsc.out
          have hw2:wr.drewN nq=W1.drewN (n1+nq):=by rw [HW1.out,World.drewN_drewN]
          clear hcw HW1 hsc
          gi_loopw [11] (fun vj w2=>∃ (j' n2:Nat),vj=.int .i64 j'∧j'≤j∧i'≤j'+1∧w2=W1.drewN n2 ∧
            Hid (Sort.scanDown (fun x=>!Sort.ltInt x dk[a]!) dk i' j'=Sort.scanDown (fun x=>!Sort.ltInt x dk[a]!) dk i' j))
           (fun vj _=>(intOf vj).toNat)
          case atStart=>exact ⟨j,n1+nq,rfl,Nat.le_refl _,hij',hw2,rfl⟩
          case round =>
           clear hw2
           obtain ⟨j',n2,rfl,hjj,hij2,hw2,hsd⟩:=hrel
           have hcw:∀ t,t < d.size→wr.cell? ⟨blk,off+t,none⟩=some (.int .u32 (Gk t)):=fun t ht=>by rw [hw2];exact hc t ht
           have HW2:Hid (wr=W1.drewN n2):=hw2
           clear hw2
           by_cases hle2:i'≤j'
           ·exfalso;omega
           ·gi_wp2_with fail
            gi_big_quiet_th_o (first | (gi_at_fn (ρ.f 16);refine CallsIn.quiet_of_same (AnySU.cmp_Less_intIn { Ly with } D _ _ _)))
            have hj2:Hid (j'=Sort.scanDown (fun x=>!Sort.ltInt x dk[a]!) dk i' j):=(scanDown_end (fun x=>!Sort.ltInt x dk[a]!) dk i' j' (Or.inl hle2)).symm.trans hsd.out
            clear hcw hsd
            have hw3:wr.drewN nq=W1.drewN (n2+nq):=by rw [HW2.out,World.drewN_drewN]
            generalize wr.drewN nq=W3 at hw3 ⊢
            have hc3:∀ t,t < d.size→W3.cell? ⟨blk,off+t,none⟩=some (.int .u32 (Gk t)):=fun t ht=>by rw [hw3];exact hc t ht
            have hf3:∀ t,t < d.size→W3.frozen? ⟨blk,off+t,none⟩=false:=fun t ht=>by rw [hw3];exact hf t ht
            have HW3:Hid (W3=W1.drewN (n2+nq)):=hw3
            clear hw3
            obtain ⟨v3,hy3⟩:=cell?_setCell_some (w:=W3) (p:=⟨blk,off+j',none⟩) (x:=.int .u32 (Gk a)) (q:=⟨blk,off+a,none⟩) (hc3 a (by omega))
            have hlj:j' < d.size:=by omega
            gi_wp2
            gi_region_o
            all_goals gi_wp2
            all_goals go_ret2
            have e:Sort.partition Sort.ltInt d a b pivot=(j',false,Sort.swp dk j' a):=by
             have e0:=(part_break Sort.ltInt a i j dk hi2.out hj2.out (by omega)).symm.trans AE.out
             rw [HP.out,← e0]
            refine ⟨?_,n+(n2+nq)+1,?_⟩
            ·rw [e];rfl
            ·rw [e,HW3.out,AW.out,World.drewN_drewN,AG.out a,AG.out j']
             exact swap_worldC (Value.int .u32) w blk off dk _ j' a (by omega) (by omega)
     ·gi_wp2_with fail
      gi_big_quiet_th_o (first | (gi_at_fn (ρ.f 16);refine CallsIn.quiet_of_same (AnySU.cmp_Less_intIn { Ly with } D _ _ _)))
      have hj2:Hid (j'=Sort.scanDown (fun x=>!Sort.ltInt x dk[a]!) dk i' j):=(scanDown_end (fun x=>!Sort.ltInt x dk[a]!) dk i' j' (Or.inl hle2)).symm.trans hsd.out
      clear hcw hsd
      have hw3:wr.drewN nq=W1.drewN (n2+nq):=by rw [HW2.out,World.drewN_drewN]
      generalize wr.drewN nq=W3 at hw3 ⊢
      have hc3:∀ t,t < d.size→W3.cell? ⟨blk,off+t,none⟩=some (.int .u32 (Gk t)):=fun t ht=>by rw [hw3];exact hc t ht
      have hf3:∀ t,t < d.size→W3.frozen? ⟨blk,off+t,none⟩=false:=fun t ht=>by rw [hw3];exact hf t ht
      have HW3:Hid (W3=W1.drewN (n2+nq)):=hw3
      clear hw3
      obtain ⟨v3,hy3⟩:=cell?_setCell_some (w:=W3) (p:=⟨blk,off+j',none⟩) (x:=.int .u32 (Gk a)) (q:=⟨blk,off+a,none⟩) (hc3 a (by omega))
      have hlj:j' < d.size:=by omega
      gi_wp2
      gi_region_o
      all_goals gi_wp2
      all_goals go_ret2
      have e:Sort.partition Sort.ltInt d a b pivot=(j',true,Sort.swp dk j' a):=part_first_break Sort.ltInt d a b pivot HI.out HJ.out HDK.out hi2.out hj2.out (by omega)
      refine ⟨?_,n+(n2+nq)+1,?_⟩
      ·rw [e];rfl
      ·rw [e,HW3.out,AW.out,World.drewN_drewN,AG.out a,AG.out j']
       exact swap_worldC (Value.int .u32) w blk off dk _ j' a (by omega) (by omega)
  ·gi_wp2_with fail
   gi_big_quiet_th_o (first | (gi_at_fn (ρ.f 16);refine CallsIn.quiet_of_same (AnySU.cmp_Less_intIn { Ly with } D _ _ _)))
   gi_wp2
   have hi2:Hid (i'=Sort.scanUp (fun x=>Sort.ltInt x dk[a]!) dk j i):=(scanUp_end (fun x=>Sort.ltInt x dk[a]!) dk j i' (Or.inl hle)).symm.trans hsc.out
   have hw2:wr.drewN nq=W1.drewN (n1+nq):=by rw [HW1.out,World.drewN_drewN]
   clear hcw HW1 hsc
   gi_loopw [11] (fun vj w2=>∃ (j' n2:Nat),vj=.int .i64 j'∧j'≤j∧i'≤j'+1∧w2=W1.drewN n2 ∧
     Hid (Sort.scanDown (fun x=>!Sort.ltInt x dk[a]!) dk i' j'=Sort.scanDown (fun x=>!Sort.ltInt x dk[a]!) dk i' j))
    (fun vj _=>(intOf vj).toNat)
   case atStart=>exact ⟨j,n1+nq,rfl,Nat.le_refl _,hij',hw2,rfl⟩
   case round =>
    clear hw2
    obtain ⟨j',n2,rfl,hjj,hij2,hw2,hsd⟩:=hrel
    have hcw:∀ t,t < d.size→wr.cell? ⟨blk,off+t,none⟩=some (.int .u32 (Gk t)):=fun t ht=>by rw [hw2];exact hc t ht
    have HW2:Hid (wr=W1.drewN n2):=hw2
    clear hw2
    by_cases hle2:i'≤j'
    ·exfalso;omega
    ·gi_wp2_with fail
     gi_big_quiet_th_o (first | (gi_at_fn (ρ.f 16);refine CallsIn.quiet_of_same (AnySU.cmp_Less_intIn { Ly with } D _ _ _)))
     have hj2:Hid (j'=Sort.scanDown (fun x=>!Sort.ltInt x dk[a]!) dk i' j):=(scanDown_end (fun x=>!Sort.ltInt x dk[a]!) dk i' j' (Or.inl hle2)).symm.trans hsd.out
     clear hcw hsd
     have hw3:wr.drewN nq=W1.drewN (n2+nq):=by rw [HW2.out,World.drewN_drewN]
     generalize wr.drewN nq=W3 at hw3 ⊢
     have hc3:∀ t,t < d.size→W3.cell? ⟨blk,off+t,none⟩=some (.int .u32 (Gk t)):=fun t ht=>by rw [hw3];exact hc t ht
     have hf3:∀ t,t < d.size→W3.frozen? ⟨blk,off+t,none⟩=false:=fun t ht=>by rw [hw3];exact hf t ht
     have HW3:Hid (W3=W1.drewN (n2+nq)):=hw3
     clear hw3
     obtain ⟨v3,hy3⟩:=cell?_setCell_some (w:=W3) (p:=⟨blk,off+j',none⟩) (x:=.int .u32 (Gk a)) (q:=⟨blk,off+a,none⟩) (hc3 a (by omega))
     have hlj:j' < d.size:=by omega
     gi_wp2
     gi_region_o
     all_goals gi_wp2
     all_goals go_ret2
     have e:Sort.partition Sort.ltInt d a b pivot=(j',true,Sort.swp dk j' a):=part_first_break Sort.ltInt d a b pivot HI.out HJ.out HDK.out hi2.out hj2.out (by omega)
     refine ⟨?_,n+(n2+nq)+1,?_⟩
     ·rw [e];rfl
     ·rw [e,HW3.out,AW.out,World.drewN_drewN,AG.out a,AG.out j']
      exact swap_worldC (Value.int .u32) w blk off dk _ j' a (by omega) (by omega)
theorem AnySU.partitionOrdered_intIn (Ly:SlW32.n18 P ρ) (D:Nat) (blk off cap a b pivot:Nat) (d:Array Int) (w:World) (hH:Holds (Value.int .u32) w blk off d) (hap:a≤pivot) (hpb:pivot < b) (hb:b≤d.size) (hsz:d.size < 4611686018427387904) :
  CallsIn (Fence.list [ρ.f 5,ρ.f 7,ρ.f 8,ρ.f 10,ρ.f 11,ρ.f 12,ρ.f 13,ρ.f 14,ρ.f 15,ρ.f 16,ρ.f 17,ρ.f 18,ρ.f 20,ρ.f 30,ρ.f 31,ρ.f 32,ρ.f 33,ρ.f 34,ρ.f 35,ρ.f 40] (some D)) 2 P (ρ.f 18) #[.slice (some ⟨blk,off,none⟩) d.size cap,.int .i64 a,.int .i64 b,.int .i64 pivot] w fun e w' =>
   e=.returned (.tuple #[.int .i64 (Sort.partition Sort.ltInt d a b pivot).1,.bool (Sort.partition Sort.ltInt d a b pivot).2.1])∧∃ n,w'=putRow (Value.int .u32) (Sort.ahead w n) blk off (Sort.partition Sort.ltInt d a b pivot).2.2 :=
 (AnySU.partition_intIn { Ly with } D blk off cap a b pivot d w hH hap hpb hb hsz).mono fun _ _ ⟨he,n,hw⟩=>⟨he,n,hw⟩
end Go.Proofs.YtiomgckodmecbaaGreat
namespace Go.Proofs.YtiomgckodmecbaaGreat
open Go.Shelf
variable {P:Program} {ρ:Ren}
open Go.Sort Go.RowKit
theorem AnySU.reverseRange_intIn (Ly:SlW32.n14 P ρ) (D:Nat) (blk off cap:Nat) (d:Array Int) (a b:Nat) (w:World) (hH:Holds encU w blk off d) (hab:a≤b) (hb:b≤d.size) (hsz:d.size < 4611686018427387904) :
  CallsIn (Fence.list [ρ.f 5,ρ.f 7,ρ.f 8,ρ.f 10,ρ.f 11,ρ.f 12,ρ.f 13,ρ.f 14,ρ.f 15,ρ.f 16,ρ.f 17,ρ.f 18,ρ.f 20,ρ.f 30,ρ.f 31,ρ.f 32,ρ.f 33,ρ.f 34,ρ.f 35,ρ.f 40] (some D)) 0 P (ρ.f 14) #[.slice (some ⟨blk,off,none⟩) d.size cap,.int .i64 a,.int .i64 b] w fun e w'=>e=.returned (.tuple #[])∧∃ n,w'=putRow encU (Sort.ahead w n) blk off (reverseRange d a b):=by
 have mixed:=Ly.mixed
 have t0:=Ly.t0;have a0:=Ly.a0;have z0:=Ly.z0;have v0:=Ly.v0;have t3:=Ly.t3;have a3:=Ly.a3;have z3:=Ly.z3;have v3:=Ly.v3;have t4:=Ly.t4;have a4:=Ly.a4;have z4:=Ly.z4;have v4:=Ly.v4;have t22:=Ly.t22;have a22:=Ly.a22;have z22:=Ly.z22;have v22:=Ly.v22;have t25:=Ly.t25;have a25:=Ly.a25;have z25:=Ly.z25;have v25:=Ly.v25
 obtain ⟨_,_,FG⟩:=Ly.f14
 gi_enter FG,SlBodyM.n14_ntmps ρ
 gi_wp2
 gi_loopg [6,7] (b - a) (fun k s6 s7 wr=>∃ (i jn:Nat) (jz:Int) (dk:Array Int) (n:Nat),s6=.int .i64 i∧s7=.int .i64 jz∧((i:Int) < jz→jz=jn∧jn < d.size)∧(¬ (i:Int) < jz→¬ i < jn)∧jn - i≤k ∧
  dk.size=d.size∧wr=putRow encU (Sort.ahead w n) blk off dk∧reverseLoop i jn dk=reverseLoop a (b - 1) d)
 case atStart=>exact ⟨a,b - 1,(b:Int) - 1,d,0,rfl,rfl,fun h=>⟨by omega,by omega⟩,fun h=>by omega,by omega,rfl,(putRow_self encU w blk off d hH).symm,rfl⟩
 case round =>
  obtain ⟨i,jn,jz,dk,n,rfl,rfl,h1,h2,hk,hds,hwr,heq⟩:=hrel
  by_cases hlt:(i:Int) < jz
  ·obtain ⟨rfl,hjn⟩:=h1 hlt
   have hij:i < jn:=by omega
   have hHk:Holds encU wr blk off dk:=by rw [hwr];exact holds_putRow encU _ blk off d dk (holds_ahead encU w n blk off d hH) hds
   obtain ⟨ci,fi⟩:=hHk i (by omega)
   obtain ⟨cj,fj⟩:=hHk jn (by omega)
   have A:Aside (wr=putRow encU (Sort.ahead w n) blk off dk):=hwr
   clear hwr hHk hH h1 h2
   gi_wp2_with fail
   gi_region_o
   gi_wp2
   gi_roundg (jn - 1 - (i+1))
   case measure=>omega
   case rel =>
    rw [reverseLoop,if_pos hij] at heq
    exact ⟨i+1,jn - 1,(jn:Int) - 1,swp dk i jn,n+1,by simp,rfl,fun h=>⟨by omega,by omega⟩,fun h=>by omega,Nat.le_refl _,by rw [size_swp];exact hds,
     swap_world encU (by omega) (by omega) A.out (by simp [encU,getElem!_pos,show jn < dk.size by omega]) rfl,heq⟩
  ·have hnot:=h2 hlt
   gi_wp2
   go_end0
   refine ⟨rfl,n,?_⟩
   rw [reverseLoop,if_neg hnot] at heq
   rw [reverseRange,← heq]
end Go.Proofs.YtiomgckodmecbaaGreat
