/- Contracts and plain laws, put together in one file. No condition. -/
import Derived.Test.YtiomgckodmecbaaGreatJ2
import Derived.Sort.WalkB2
import Derived.OwnWalkIn
import Derived.TacticsInMore
import Derived.RegionIn
import Derived.LoopNIn
import Derived.LoopIn
import Derived.Sort.CutIn
import Derived.Sort.QuietIn
import Derived.Sort.AtCallIn
import Derived.Shelf.RegionOpen
import Derived.Shelf.AbstractIn
import Derived.Sort.WalkB3
import Derived.Sort.Walk13
import Derived.Sort.LotD6
import Derived.Sort.WalkA14
import Derived.Sort.LotD7
import Derived.Sort.AssemblyPlain
import Derived.Sort.EveryDepth
import Derived.WalkKit
import Derived.Sort.LoopGhostIn

set_option maxRecDepth 100000
set_option maxHeartbeats 32000000
namespace Go.Proofs.YtiomgckodmecbaaGreat
open Go.Shelf
variable {P:Program} {ρ:Ren}
open Go.Sort Go.RowKit
theorem AnySU.siftDown_intIn (Ly:SlW32.n30 P ρ) (D:Nat) (blk off len cap:Nat) (d:Array Int) (hlen:d.size=len) (lo hi first:Nat) (w:World) (hH:Holds encU w blk off d) (hlo:lo≤hi) (hb:first+hi≤d.size) (hsz:d.size < 4611686018427387904) :
  CallsIn (Fence.list [ρ.f 5,ρ.f 7,ρ.f 8,ρ.f 10,ρ.f 11,ρ.f 12,ρ.f 13,ρ.f 14,ρ.f 15,ρ.f 16,ρ.f 17,ρ.f 18,ρ.f 20,ρ.f 30,ρ.f 31,ρ.f 32,ρ.f 33,ρ.f 34,ρ.f 35,ρ.f 40] (some D)) 2 P (ρ.f 30) #[.slice (some ⟨blk,off,none⟩) len cap,.int .i64 lo,.int .i64 hi,.int .i64 first] w fun e w'=>e=.returned (.tuple #[])∧∃ n,w'=putRow encU (Sort.ahead w n) blk off (siftDown ltInt hi first lo d):=by
 subst hlen
 have mixed:=Ly.mixed
 have t0:=Ly.t0;have a0:=Ly.a0;have z0:=Ly.z0;have v0:=Ly.v0;have t3:=Ly.t3;have a3:=Ly.a3;have z3:=Ly.z3;have v3:=Ly.v3;have t4:=Ly.t4;have a4:=Ly.a4;have z4:=Ly.z4;have v4:=Ly.v4;have t22:=Ly.t22;have a22:=Ly.a22;have z22:=Ly.z22;have v22:=Ly.v22;have t25:=Ly.t25;have a25:=Ly.a25;have z25:=Ly.z25;have v25:=Ly.v25
 have e216:∀ args w,(callFunc (ρ.f 16) args).run P w=.ok (.enter (ρ.f 16) args) w:=Ly.f16.enters rfl
 obtain ⟨_,_,FG⟩:=Ly.f30
 gi_enter FG,SlBodyM.n30_ntmps ρ
 gi_wp2
 gi_loopg [8] (hi - lo) (fun k s8 wr=>∃ (root:Nat) (dk:Array Int) (n:Nat),s8=.int .i64 root∧root≤hi∧hi - root≤k∧dk.size=d.size∧wr=putRow encU (Sort.ahead w n) blk off dk∧siftDown ltInt hi first root dk=siftDown ltInt hi first lo d)
 case atStart=>exact ⟨lo,d,0,rfl,hlo,Nat.le_refl _,rfl,(putRow_self encU w blk off d hH).symm,rfl⟩
 case round =>
  obtain ⟨root,dk,n,rfl,hr,hk,hds,hwr,heq⟩:=hrel
  have hHk:Holds encU wr blk off dk:=by rw [hwr];exact holds_putRow encU _ blk off d dk (holds_ahead encU w n blk off d hH) hds
  have hcw:∀ t,t < d.size→wr.cell? ⟨blk,off+t,none⟩=some (.int .u32 dk[t]!):=fun t ht=>(hHk t (by omega)).1
  have hfw:∀ t,t < d.size→wr.frozen? ⟨blk,off+t,none⟩=false:=fun t ht=>(hHk t (by omega)).2
  have A:Aside (wr=putRow encU (Sort.ahead w n) blk off dk):=hwr
  clear hwr hH hHk
  by_cases h0:hi≤2 * root+1
  ·
   have h0z:(hi:Int)≤2 * (root:Int)+1:=by omega
   gi_wp2
   go_end0
   refine ⟨rfl,n,?_⟩
   rw [A.out,← heq,sd_end ltInt dk h0]
  ·
   have h0z:¬ ((hi:Int)≤2 * (root:Int)+1):=by omega
   by_cases h1:2 * root+2 < hi
   ·have h1z:2 * (root:Int)+1+1 < (hi:Int):=by omega
    gi_wp2_with fail
    gi_big_quiet_th_o (first | (gi_at_fn (ρ.f 16);refine CallsIn.quiet_of_same (AnySU.cmp_Less_intIn { Ly with } D _ _ _)))
    gi_wp2_with fail
    ·
     have hL:ltInt dk[first+2 * root+1]! dk[first+2 * root+2]! = true:=by assumption
     revert nq;intro nq1
     have hcw2:∀ t,t < d.size→(wr.drewN nq1).cell? ⟨blk,off+t,none⟩=some (.int .u32 dk[t]!):=hcw
     have hfw2:∀ t,t < d.size→(wr.drewN nq1).frozen? ⟨blk,off+t,none⟩=false:=hfw
     have A2:Aside (wr.drewN nq1=putRow encU (Sort.ahead w (n+nq1)) blk off dk):=drewN_world encU A.out nq1
     clear hcw hfw A
     generalize wr.drewN nq1=wr2 at hcw2 hfw2 A2 ⊢
     gi_big_quiet_th_o (first | (gi_at_fn (ρ.f 16);refine CallsIn.quiet_of_same (AnySU.cmp_Less_intIn { Ly with } D _ _ _)))
     gi_wp2_with fail
     ·
      have hS:ltInt dk[first+root]! dk[first+2 * root+2]! = false:=by
       have:(!ltInt dk[first+root]! dk[first+2 * root+2]!)=true:=by assumption
       simpa using this
      (try simp only [Exit.inBlock,Exit.then]);refine bodyPost_ret (results_none rfl _ _ _) rfl ?_
      refine ⟨rfl,n+nq1+nq,?_⟩
      rw [drewN_world encU A2.out nq,← heq,sd_right_stop ltInt dk h1 hL hS]
     ·
      have hG:ltInt dk[first+root]! dk[first+2 * root+2]! = true:=by
       have:(!ltInt dk[first+root]! dk[first+2 * root+2]!)=false:=by assumption
       simpa using this
      have hcw3:∀ t,t < d.size→(wr2.drewN nq).cell? ⟨blk,off+t,none⟩=some (.int .u32 dk[t]!):=hcw2
      have hfw3:∀ t,t < d.size→(wr2.drewN nq).frozen? ⟨blk,off+t,none⟩=false:=hfw2
      have A3:Aside (wr2.drewN nq=putRow encU (Sort.ahead w (n+nq1+nq)) blk off dk):=drewN_world encU A2.out nq
      clear hcw2 hfw2 A2
      generalize wr2.drewN nq=wr3 at hcw3 hfw3 A3 ⊢
      gi_region_o
      gi_wp2
      gi_roundg (hi - (2 * root+2))
      case measure=>omega
      case rel =>
       refine ⟨2 * root+2,swp dk (first+root) (first+(2 * root+1+1)),n+nq1+nq+1,by simp <;> omega,by omega,Nat.le_refl _,by rw [size_swp];exact hds,swap_world encU (by omega) (by omega) A3.out rfl rfl,?_⟩
       rw [← heq,sd_right_go ltInt dk h1 hL hG]
    ·
     have hL:ltInt dk[first+2 * root+1]! dk[first+2 * root+2]! = false:=by assumption
     revert nq;intro nq1
     have hcw2:∀ t,t < d.size→(wr.drewN nq1).cell? ⟨blk,off+t,none⟩=some (.int .u32 dk[t]!):=hcw
     have hfw2:∀ t,t < d.size→(wr.drewN nq1).frozen? ⟨blk,off+t,none⟩=false:=hfw
     have A2:Aside (wr.drewN nq1=putRow encU (Sort.ahead w (n+nq1)) blk off dk):=drewN_world encU A.out nq1
     clear hcw hfw A
     generalize wr.drewN nq1=wr2 at hcw2 hfw2 A2 ⊢
     gi_big_quiet_th_o (first | (gi_at_fn (ρ.f 16);refine CallsIn.quiet_of_same (AnySU.cmp_Less_intIn { Ly with } D _ _ _)))
     gi_wp2_with fail
     ·
      have hS:ltInt dk[first+root]! dk[first+2 * root+1]! = false:=by
       have:(!ltInt dk[first+root]! dk[first+2 * root+1]!)=true:=by assumption
       simpa using this
      (try simp only [Exit.inBlock,Exit.then]);refine bodyPost_ret (results_none rfl _ _ _) rfl ?_
      refine ⟨rfl,n+nq1+nq,?_⟩
      rw [drewN_world encU A2.out nq,← heq,sd_left_stop ltInt dk (by omega) (fun _=>hL) hS]
     ·
      have hG:ltInt dk[first+root]! dk[first+2 * root+1]! = true:=by
       have:(!ltInt dk[first+root]! dk[first+2 * root+1]!)=false:=by assumption
       simpa using this
      have hcw3:∀ t,t < d.size→(wr2.drewN nq).cell? ⟨blk,off+t,none⟩=some (.int .u32 dk[t]!):=hcw2
      have hfw3:∀ t,t < d.size→(wr2.drewN nq).frozen? ⟨blk,off+t,none⟩=false:=hfw2
      have A3:Aside (wr2.drewN nq=putRow encU (Sort.ahead w (n+nq1+nq)) blk off dk):=drewN_world encU A2.out nq
      clear hcw2 hfw2 A2
      generalize wr2.drewN nq=wr3 at hcw3 hfw3 A3 ⊢
      gi_region_o
      gi_wp2
      gi_roundg (hi - (2 * root+1))
      case measure=>omega
      case rel =>
       refine ⟨2 * root+1,swp dk (first+root) (first+(2 * root+1)),n+nq1+nq+1,by simp <;> omega,by omega,Nat.le_refl _,by rw [size_swp];exact hds,swap_world encU (by omega) (by omega) A3.out rfl rfl,?_⟩
       rw [← heq,sd_left_go ltInt dk (by omega) (fun _=>hL) hG]
   ·
    have h1z:decide (2 * (root:Int)+1+1 < (hi:Int))=false:=decide_eq_false (by omega)
    gi_wp2_with fail
    gi_big_quiet_th_o (first | (gi_at_fn (ρ.f 16);refine CallsIn.quiet_of_same (AnySU.cmp_Less_intIn { Ly with } D _ _ _)))
    gi_wp2_with fail
    revert nq;intro nq1
    have hcw2:∀ t,t < d.size→(wr.drewN nq1).cell? ⟨blk,off+t,none⟩=some (.int .u32 dk[t]!):=hcw
    have hfw2:∀ t,t < d.size→(wr.drewN nq1).frozen? ⟨blk,off+t,none⟩=false:=hfw
    have A2:Aside (wr.drewN nq1=putRow encU (Sort.ahead w (n+nq1)) blk off dk):=drewN_world encU A.out nq1
    clear hcw hfw A
    generalize wr.drewN nq1=wr2 at hcw2 hfw2 A2 ⊢
    gi_big_quiet_th_o (first | (gi_at_fn (ρ.f 16);refine CallsIn.quiet_of_same (AnySU.cmp_Less_intIn { Ly with } D _ _ _)))
    gi_wp2_with fail
    ·
     have hS:ltInt dk[first+root]! dk[first+2 * root+1]! = false:=by
      have:(!ltInt dk[first+root]! dk[first+2 * root+1]!)=true:=by assumption
      simpa using this
     (try simp only [Exit.inBlock,Exit.then]);refine bodyPost_ret (results_none rfl _ _ _) rfl ?_
     refine ⟨rfl,n+nq1+nq,?_⟩
     rw [drewN_world encU A2.out nq,← heq,sd_left_stop ltInt dk (by omega) (fun h=>absurd h h1) hS]
    ·
     have hG:ltInt dk[first+root]! dk[first+2 * root+1]! = true:=by
      have:(!ltInt dk[first+root]! dk[first+2 * root+1]!)=false:=by assumption
      simpa using this
     have hcw3:∀ t,t < d.size→(wr2.drewN nq).cell? ⟨blk,off+t,none⟩=some (.int .u32 dk[t]!):=hcw2
     have hfw3:∀ t,t < d.size→(wr2.drewN nq).frozen? ⟨blk,off+t,none⟩=false:=hfw2
     have A3:Aside (wr2.drewN nq=putRow encU (Sort.ahead w (n+nq1+nq)) blk off dk):=drewN_world encU A2.out nq
     clear hcw2 hfw2 A2
     generalize wr2.drewN nq=wr3 at hcw3 hfw3 A3 ⊢
     gi_region_o
     gi_wp2
     gi_roundg (hi - (2 * root+1))
     case measure=>omega
     case rel =>
      refine ⟨2 * root+1,swp dk (first+root) (first+(2 * root+1)),n+nq1+nq+1,by simp <;> omega,by omega,Nat.le_refl _,by rw [size_swp];exact hds,swap_world encU (by omega) (by omega) A3.out rfl rfl,?_⟩
      rw [← heq,sd_left_go ltInt dk (by omega) (fun h=>absurd h h1) hG]
end Go.Proofs.YtiomgckodmecbaaGreat
namespace Go.Proofs.YtiomgckodmecbaaGreat
open Go.Shelf
variable {P:Program} {ρ:Ren}
open Go.Sort Go.RowKit
theorem AnySU.heapSort_intIn (Ly:SlW32.n11 P ρ) (D:Nat) (blk off len cap:Nat) (d:Array Int) (hlen:d.size=len) (a b:Nat) (w:World) (hH:Holds encU w blk off d) (hab:a≤b) (hb:b≤d.size) (hsz:d.size < 4611686018427387904) :
  CallsIn (Fence.list [ρ.f 5,ρ.f 7,ρ.f 8,ρ.f 10,ρ.f 11,ρ.f 12,ρ.f 13,ρ.f 14,ρ.f 15,ρ.f 16,ρ.f 17,ρ.f 18,ρ.f 20,ρ.f 30,ρ.f 31,ρ.f 32,ρ.f 33,ρ.f 34,ρ.f 35,ρ.f 40] (some D)) 3 P (ρ.f 11) #[.slice (some ⟨blk,off,none⟩) len cap,.int .i64 a,.int .i64 b] w fun e w'=>e=.returned (.tuple #[])∧∃ n,w'=putRow encU (Sort.ahead w n) blk off (heapSort ltInt d a b):=by
 subst hlen
 have ecast:((b - a:Nat):Int)=(b:Int) - (a:Int):=by omega
 have mixed:=Ly.mixed
 have t0:=Ly.t0;have a0:=Ly.a0;have z0:=Ly.z0;have v0:=Ly.v0;have t3:=Ly.t3;have a3:=Ly.a3;have z3:=Ly.z3;have v3:=Ly.v3;have t4:=Ly.t4;have a4:=Ly.a4;have z4:=Ly.z4;have v4:=Ly.v4;have t22:=Ly.t22;have a22:=Ly.a22;have z22:=Ly.z22;have v22:=Ly.v22;have t25:=Ly.t25;have a25:=Ly.a25;have z25:=Ly.z25;have v25:=Ly.v25
 have e328:∀ args w,(callFunc (ρ.f 30) args).run P w=.ok (.enter (ρ.f 30) args) w:=Ly.f30.enters rfl
 obtain ⟨_,_,FG⟩:=Ly.f11
 gi_enter FG,SlBodyM.n11_ntmps ρ
 gi_wp2
 gi_loopg [9] ((b - a - 1) / 2+1) (fun k s9 wr=>s9=.int .i64 ((k:Int) - 1)∧k≤(b - a - 1) / 2+1∧∃ (dk:Array Int) (n:Nat),dk.size=d.size∧wr=putRow encU (Sort.ahead w n) blk off dk ∧
  heapBuild ltInt (b - a) a k dk=heapBuild ltInt (b - a) a ((b - a - 1) / 2+1) d)
 case atStart=>exact ⟨by rw [half_start hab],Nat.le_refl _,d,0,rfl,(putRow_self encU w blk off d hH).symm,rfl⟩
 case round =>
  obtain ⟨rfl,hkk,dk,n,hds,hwr,heq⟩:=hrel
  have hHk:Holds encU wr blk off dk:=by rw [hwr];exact holds_putRow encU _ blk off d dk (holds_ahead encU w n blk off d hH) hds
  have A:Aside (wr=putRow encU (Sort.ahead w n) blk off dk):=hwr
  clear hwr
  cases gk with
  | zero =>
   have hB:dk=heapBuild ltInt (b - a) a ((b - a - 1) / 2+1) d:=heq
   clear heq hHk hkk
   gi_wp2
   gi_loopg [10] (b - a) (fun k s10 wr2=>s10=.int .i64 ((k:Int) - 1)∧k≤b - a∧∃ (dj:Array Int) (n2:Nat),dj.size=d.size∧wr2=putRow encU (Sort.ahead w n2) blk off dj∧heapPop ltInt a k dj=heapPop ltInt a (b - a) dk)
   case atStart=>exact ⟨by rw [ecast],Nat.le_refl _,dk,n,hds,A.out,rfl⟩
   case round =>
    obtain ⟨rfl,hkk,dj,n2,hdj,hwr2,heq2⟩:=hrel
    cases gk with
    | zero =>
     gi_wp2
     go_end0
     refine ⟨rfl,n2,?_⟩
     have e:dj=heapSort ltInt d a b:=by rw [heapSort,← hB,← heq2];rfl
     rw [← e]
    | succ k =>
     have hHj:Holds encU wr blk off dj:=by rw [hwr2];exact holds_putRow encU _ blk off d dj (holds_ahead encU w n2 blk off d hH) hdj
     have hcw:∀ t,t < d.size→wr.cell? ⟨blk,off+t,none⟩=some (.int .u32 dj[t]!):=fun t ht=>(hHj t (by omega)).1
     have hfw:∀ t,t < d.size→wr.frozen? ⟨blk,off+t,none⟩=false:=fun t ht=>(hHj t (by omega)).2
     have A2:Aside (wr=putRow encU (Sort.ahead w n2) blk off dj):=hwr2
     clear hwr2 hHj
     rcases Nat.eq_zero_or_pos k with hk0 | hkp
     ·subst hk0
      gi_wp2_with fail
      gi_region_o
      gi_wp2_with fail
      rw [swap_world encU (i:=a) (j:=a) (by omega) (by omega) A2.out rfl rfl]
      refine (AnySU.siftDown_intIn { Ly with } D blk off d.size cap (swp dj a (a)) (by rw [size_swp];exact hdj) 0 0 a _ (holds_putRow encU _ blk off d _ (holds_ahead encU w (n2+1) blk off d hH) (by rw [size_swp];exact hdj)) (Nat.zero_le _) (by rw [size_swp];omega) (by rw [size_swp];omega)).mono ?_
      rintro e w1 ⟨rfl,m,hw1⟩
      gi_wp2
      gi_roundg 0
      case measure=>omega
      case rel =>
       refine ⟨by simp,by omega,siftDown ltInt 0 a 0 (swp dj a (a)),n2+1+m,by rw [size_siftDown ltInt _ _ _ _ _ (Nat.le_refl _),size_swp];exact hdj,?_,heq2⟩
       first
        | rw [hw1,putRow_ahead_putRow encU w (n2+1) m blk off _ _ (size_siftDown ltInt _ _ _ _ _ (Nat.le_refl _))]
        | rw [putRow_ahead_putRow encU w (n2+1) m blk off _ _ (size_siftDown ltInt _ _ _ _ _ (Nat.le_refl _))]
     ·skip
      gi_wp2_with fail
      gi_region_o
      gi_wp2_with fail
      rw [swap_world encU (i:=a) (j:=a+k) (by omega) (by omega) A2.out rfl rfl]
      refine (AnySU.siftDown_intIn { Ly with } D blk off d.size cap (swp dj a (a+k)) (by rw [size_swp];exact hdj) 0 k a _ (holds_putRow encU _ blk off d _ (holds_ahead encU w (n2+1) blk off d hH) (by rw [size_swp];exact hdj)) (Nat.zero_le _) (by rw [size_swp];omega) (by rw [size_swp];omega)).mono ?_
      rintro e w1 ⟨rfl,m,hw1⟩
      gi_wp2
      gi_roundg k
      case measure=>omega
      case rel =>
       refine ⟨by simp,by omega,siftDown ltInt k a 0 (swp dj a (a+k)),n2+1+m,by rw [size_siftDown ltInt _ _ _ _ _ (Nat.le_refl _),size_swp];exact hdj,?_,heq2⟩
       first
        | rw [hw1,putRow_ahead_putRow encU w (n2+1) m blk off _ _ (size_siftDown ltInt _ _ _ _ _ (Nat.le_refl _))]
        | rw [putRow_ahead_putRow encU w (n2+1) m blk off _ _ (size_siftDown ltInt _ _ _ _ _ (Nat.le_refl _))]
  | succ k =>
   have hcall:=AnySU.siftDown_intIn { Ly with } D blk off d.size cap dk hds k (b - a) a wr hHk (by omega) (by omega) (by omega)
   rw [ecast] at hcall
   gi_wp2_with (gi_at_fn (ρ.f 30);refine hcall.mono ?_;rintro e w1 ⟨rfl,m,hw1⟩)
   gi_roundg k
   case measure=>omega
   case rel =>
    refine ⟨by simp,by omega,siftDown ltInt (b - a) a k dk,n+m,by rw [size_siftDown ltInt _ _ _ _ _ (Nat.le_refl _)];exact hds,?_,heq⟩
    rw [A.out,putRow_ahead_putRow encU w n m blk off dk _ (size_siftDown ltInt _ _ _ _ _ (Nat.le_refl _))]
end Go.Proofs.YtiomgckodmecbaaGreat
namespace Go.Proofs.YtiomgckodmecbaaGreat
open Go.Shelf
variable {P:Program} {ρ:Ren}
open Go.Sort Go.RowKit
structure Callees13InU (P:Program) (ρ:Ren) (D:Nat):Prop where
  heap:∀ (blk off len cap:Nat) (d:Array Int) (_:d.size=len) (a b:Nat) (w:World),Holds encU w blk off d→a≤b→b≤d.size→d.size < 4611686018427387904 →
    CallsIn (Fence.list [ρ.f 5,ρ.f 7,ρ.f 8,ρ.f 10,ρ.f 11,ρ.f 12,ρ.f 13,ρ.f 14,ρ.f 15,ρ.f 16,ρ.f 17,ρ.f 18,ρ.f 20,ρ.f 30,ρ.f 31,ρ.f 32,ρ.f 33,ρ.f 34,ρ.f 35,ρ.f 40] (some D)) 3 P (ρ.f 11) #[.slice (some ⟨blk,off,none⟩) len cap,.int .i64 a,.int .i64 b] w fun e w'=>e=.returned (.tuple #[])∧∃ n,w'=putRow encU (Sort.ahead w n) blk off (heapSort ltInt d a b)
  rev:∀ (blk off cap:Nat) (d:Array Int) (a b:Nat) (w:World),Holds encU w blk off d→a≤b→b≤d.size→d.size < 4611686018427387904 →
    CallsIn (Fence.list [ρ.f 5,ρ.f 7,ρ.f 8,ρ.f 10,ρ.f 11,ρ.f 12,ρ.f 13,ρ.f 14,ρ.f 15,ρ.f 16,ρ.f 17,ρ.f 18,ρ.f 20,ρ.f 30,ρ.f 31,ρ.f 32,ρ.f 33,ρ.f 34,ρ.f 35,ρ.f 40] (some D)) 0 P (ρ.f 14) #[.slice (some ⟨blk,off,none⟩) d.size cap,.int .i64 a,.int .i64 b] w fun e w'=>e=.returned (.tuple #[])∧∃ n,w'=putRow encU (Sort.ahead w n) blk off (reverseRange d a b)
  ins:∀ (blk off cap a b:Nat) (d:Array Int) (w:World),Holds encU w blk off d→a≤b→b≤d.size→d.size < 4611686018427387904 →
    CallsIn (Fence.list [ρ.f 5,ρ.f 7,ρ.f 8,ρ.f 10,ρ.f 11,ρ.f 12,ρ.f 13,ρ.f 14,ρ.f 15,ρ.f 16,ρ.f 17,ρ.f 18,ρ.f 20,ρ.f 30,ρ.f 31,ρ.f 32,ρ.f 33,ρ.f 34,ρ.f 35,ρ.f 40] (some D)) 2 P (ρ.f 10) #[.slice (some ⟨blk,off,none⟩) d.size cap,.int .i64 a,.int .i64 b] w fun e w'=>e=.returned (.tuple #[])∧∃ n,w'=putRow encU (Sort.ahead w n) blk off (insertionSort ltInt d a b)
  brk:∀ (blk off cap a b:Nat) (d:Array Int) (w:World),Holds encU w blk off d→blk < w.heap.size→a≤b→b≤d.size→d.size < 4611686018427387904 →
    CallsIn (Fence.list [ρ.f 5,ρ.f 7,ρ.f 8,ρ.f 10,ρ.f 11,ρ.f 12,ρ.f 13,ρ.f 14,ρ.f 15,ρ.f 16,ρ.f 17,ρ.f 18,ρ.f 20,ρ.f 30,ρ.f 31,ρ.f 32,ρ.f 33,ρ.f 34,ρ.f 35,ρ.f 40] (some D)) 3 P (ρ.f 12) #[.slice (some ⟨blk,off,none⟩) d.size cap,.int .i64 a,.int .i64 b] w fun e w'=>e=.returned (.tuple #[])∧∃ n os,w'=grow (putRow encU (Sort.ahead w n) blk off (breakPatterns d a b)) os
  piv:∀ (blk off cap a b:Nat) (d:Array Int) (w:World),Holds encU w blk off d→blk < w.heap.size→a < b→b≤d.size→d.size < 4611686018427387904 →
    CallsIn (Fence.list [ρ.f 5,ρ.f 7,ρ.f 8,ρ.f 10,ρ.f 11,ρ.f 12,ρ.f 13,ρ.f 14,ρ.f 15,ρ.f 16,ρ.f 17,ρ.f 18,ρ.f 20,ρ.f 30,ρ.f 31,ρ.f 32,ρ.f 33,ρ.f 34,ρ.f 35,ρ.f 40] (some D)) 5 P (ρ.f 13) #[.slice (some ⟨blk,off,none⟩) d.size cap,.int .i64 a,.int .i64 b] w fun e w'=>e=.returned (.tuple #[.int .i64 (choosePivot ltInt d a b).1,.int .i64 (hintCode (choosePivot ltInt d a b).2)])∧∃ n os,w'=grow (Sort.ahead w n) os
  par:∀ (blk off cap a b:Nat) (d:Array Int) (w:World),Holds encU w blk off d→a < b→b≤d.size→d.size < 4611686018427387904 →
    CallsIn (Fence.list [ρ.f 5,ρ.f 7,ρ.f 8,ρ.f 10,ρ.f 11,ρ.f 12,ρ.f 13,ρ.f 14,ρ.f 15,ρ.f 16,ρ.f 17,ρ.f 18,ρ.f 20,ρ.f 30,ρ.f 31,ρ.f 32,ρ.f 33,ρ.f 34,ρ.f 35,ρ.f 40] (some D)) 2 P (ρ.f 15) #[.slice (some ⟨blk,off,none⟩) d.size cap,.int .i64 a,.int .i64 b] w fun e w'=>e=.returned (.bool (partialInsertionSort ltInt d a b).2)∧∃ n,w'=putRow encU (Sort.ahead w n) blk off (partialInsertionSort ltInt d a b).1
  peq:∀ (blk off cap a b pivot:Nat) (d:Array Int) (w:World),Holds encU w blk off d→a≤pivot→pivot < b→b≤d.size→d.size < 4611686018427387904 →
    CallsIn (Fence.list [ρ.f 5,ρ.f 7,ρ.f 8,ρ.f 10,ρ.f 11,ρ.f 12,ρ.f 13,ρ.f 14,ρ.f 15,ρ.f 16,ρ.f 17,ρ.f 18,ρ.f 20,ρ.f 30,ρ.f 31,ρ.f 32,ρ.f 33,ρ.f 34,ρ.f 35,ρ.f 40] (some D)) 2 P (ρ.f 17) #[.slice (some ⟨blk,off,none⟩) d.size cap,.int .i64 a,.int .i64 b,.int .i64 pivot] w fun e w'=>e=.returned (.int .i64 (partitionEqual ltInt d a b pivot).1)∧∃ n,w'=putRow encU (Sort.ahead w n) blk off (partitionEqual ltInt d a b pivot).2
  prt:∀ (blk off cap a b pivot:Nat) (d:Array Int) (w:World),Holds encU w blk off d→a≤pivot→pivot < b→b≤d.size→d.size < 4611686018427387904 →
    CallsIn (Fence.list [ρ.f 5,ρ.f 7,ρ.f 8,ρ.f 10,ρ.f 11,ρ.f 12,ρ.f 13,ρ.f 14,ρ.f 15,ρ.f 16,ρ.f 17,ρ.f 18,ρ.f 20,ρ.f 30,ρ.f 31,ρ.f 32,ρ.f 33,ρ.f 34,ρ.f 35,ρ.f 40] (some D)) 2 P (ρ.f 18) #[.slice (some ⟨blk,off,none⟩) d.size cap,.int .i64 a,.int .i64 b,.int .i64 pivot] w fun e w'=>e=.returned (.tuple #[.int .i64 (partition ltInt d a b pivot).1,.bool (partition ltInt d a b pivot).2.1])∧∃ n,w'=putRow encU (Sort.ahead w n) blk off (partition ltInt d a b pivot).2.2
theorem AnySU.pdqsort_intIn (Ly:SlW32.n7 P ρ) (D:Nat) (C:Callees13InU P ρ D) (S:Plain13):∀ (N rm blk off cap a b limit:Nat) (d:Array Int) (w:World),b - a < N→pdqDepth ltInt d a b limit true true+6≤rm→Holds encU w blk off d→blk < w.heap.size→a≤b→b≤d.size→d.size < 4611686018427387904→limit < 4611686018427387904→Below ltInt a b d →
    CallsIn (Fence.list [ρ.f 5,ρ.f 7,ρ.f 8,ρ.f 10,ρ.f 11,ρ.f 12,ρ.f 13,ρ.f 14,ρ.f 15,ρ.f 16,ρ.f 17,ρ.f 18,ρ.f 20,ρ.f 30,ρ.f 31,ρ.f 32,ρ.f 33,ρ.f 34,ρ.f 35,ρ.f 40] (some D)) rm P (ρ.f 7) #[.slice (some ⟨blk,off,none⟩) d.size cap,.int .i64 a,.int .i64 b,.int .i64 limit] w fun e w'=>e=.returned (.tuple #[])∧At encU w blk off (pdq ltInt d a b limit true true) w':=by
  intro N
  induction N with
  | zero=>intro _ _ _ _ _ _ _ _ _ h;exact absurd h (Nat.not_lt_zero _)
  | succ N ih =>
    intro rm blk off cap a b limit d w hN hrm hH hblk hab hb hsz hlimit hBel0
    have hrm1:1≤rm:=by omega
    have mixed:=Ly.mixed
    have t0:=Ly.t0;have a0:=Ly.a0;have z0:=Ly.z0;have v0:=Ly.v0;have t3:=Ly.t3;have a3:=Ly.a3;have z3:=Ly.z3;have v3:=Ly.v3;have t4:=Ly.t4;have a4:=Ly.a4;have z4:=Ly.z4;have v4:=Ly.v4;have t5:=Ly.t5;have a5:=Ly.a5;have z5:=Ly.z5;have v5:=Ly.v5;have t9:=Ly.t9;have a9:=Ly.a9;have z9:=Ly.z9;have v9:=Ly.v9;have t22:=Ly.t22;have a22:=Ly.a22;have z22:=Ly.z22;have v22:=Ly.v22;have t25:=Ly.t25;have a25:=Ly.a25;have z25:=Ly.z25;have v25:=Ly.v25;have t32:=Ly.t32;have a32:=Ly.a32;have z32:=Ly.z32;have v32:=Ly.v32;have t35:=Ly.t35;have a35:=Ly.a35;have z35:=Ly.z35;have v35:=Ly.v35;have t36:=Ly.t36;have a36:=Ly.a36;have z36:=Ly.z36;have v36:=Ly.v36;have t41:=Ly.t41;have a41:=Ly.a41;have z41:=Ly.z41;have v41:=Ly.v41;have t44:=Ly.t44;have a44:=Ly.a44;have z44:=Ly.z44;have v44:=Ly.v44;have t46:=Ly.t46;have a46:=Ly.a46;have z46:=Ly.z46;have v46:=Ly.v46;have t53:=Ly.t53;have a53:=Ly.a53;have z53:=Ly.z53;have v53:=Ly.v53;have t57:=Ly.t57;have a57:=Ly.a57;have z57:=Ly.z57;have v57:=Ly.v57;have t63:=Ly.t63;have a63:=Ly.a63;have z63:=Ly.z63;have v63:=Ly.v63;have t64:=Ly.t64;have a64:=Ly.a64;have z64:=Ly.z64;have v64:=Ly.v64
    have e294:∀ args w,(callFunc (ρ.f 10) args).run P w=.ok (.enter (ρ.f 10) args) w:=Ly.f10.enters rfl
    have e295:∀ args w,(callFunc (ρ.f 11) args).run P w=.ok (.enter (ρ.f 11) args) w:=Ly.f11.enters rfl
    have e296:∀ args w,(callFunc (ρ.f 12) args).run P w=.ok (.enter (ρ.f 12) args) w:=Ly.f12.enters rfl
    have e297:∀ args w,(callFunc (ρ.f 13) args).run P w=.ok (.enter (ρ.f 13) args) w:=Ly.f13.enters rfl
    have e298:∀ args w,(callFunc (ρ.f 14) args).run P w=.ok (.enter (ρ.f 14) args) w:=Ly.f14.enters rfl
    have e299:∀ args w,(callFunc (ρ.f 15) args).run P w=.ok (.enter (ρ.f 15) args) w:=Ly.f15.enters rfl
    have e216:∀ args w,(callFunc (ρ.f 16) args).run P w=.ok (.enter (ρ.f 16) args) w:=Ly.f16.enters rfl
    have e300:∀ args w,(callFunc (ρ.f 17) args).run P w=.ok (.enter (ρ.f 17) args) w:=Ly.f17.enters rfl
    have e301:∀ args w,(callFunc (ρ.f 18) args).run P w=.ok (.enter (ρ.f 18) args) w:=Ly.f18.enters rfl
    have e257:∀ args w,(callFunc (ρ.f 7) args).run P w=.ok (.enter (ρ.f 7) args) w:=Ly.f7.enters rfl
    obtain ⟨_,_,FG⟩:=Ly.f7
    gi_enter FG,SlBodyM.n7_ntmps ρ
    gi_wp2
    gi_loopg [1,2,3,8,9] (b - a) (fun k s1 s2 s3 s8 s9 wr=>∃ (a' b' lim:Nat) (wb wp:Bool) (dk:Array Int),s1=.int .i64 a'∧s2=.int .i64 b'∧s3=.int .i64 lim∧s8=.bool wb∧s9=.bool wp ∧
      a'≤b'∧b'≤d.size∧b' - a'≤k∧k≤b - a∧lim≤limit∧dk.size=d.size∧Below ltInt a' b' dk∧At encU w blk off dk wr∧pdq ltInt dk a' b' lim wb wp=pdq ltInt d a b limit true true∧pdqDepth ltInt dk a' b' lim wb wp+6≤rm)
    case atStart=>exact ⟨a,b,limit,true,true,d,rfl,rfl,rfl,rfl,rfl,hab,hb,Nat.le_refl _,Nat.le_refl _,Nat.le_refl _,rfl,hBel0,At.refl hH,rfl,hrm⟩
    case round =>
      obtain ⟨a',b',lim,wb,wp,dk,rfl,rfl,rfl,rfl,rfl,hab',hb',hk,hkN,hlim,hds,hBel,hAt,heq,hdp⟩:=hrel
      obtain ⟨hHk,hblk'⟩:=hAt.holds hH hds hblk
      have A:Aside (pdq ltInt dk a' b' lim wb wp=pdq ltInt d a b limit true true):=heq
      clear heq
      by_cases h12:b' - a'≤12
      ·
        have h12z:(b':Int) - (a':Int)≤12:=by omega
        have hc:=(C.ins blk off cap a' b' dk wr hHk hab' (by omega) (by omega)).more (show 2≤rm - 1 by omega)
        rw [hds] at hc
        gi_wp2_with (gi_at_fn (ρ.f 10);refine hc.mono ?_;rintro e w1 ⟨rfl,hw1⟩)
        (try simp only [Exit.inBlock,Exit.then]);refine bodyPost_ret (results_none rfl _ _ _) rfl ?_
        refine ⟨rfl,?_⟩
        rw [← A.out,pdq_small h12]
        exact hAt.step hblk (S.ins S.swo dk a' b' hab' (by omega)).1.1 hw1
      · have h12z:¬ ((b':Int) - (a':Int)≤12):=by omega
        by_cases hl0:lim=0
        ·
          subst hl0
          have hc:=(C.heap blk off d.size cap dk hds a' b' wr hHk hab' (by omega) (by omega)).more (show 3≤rm - 1 by omega)
          gi_wp2_with (gi_at_fn (ρ.f 11);refine hc.mono ?_;rintro e w1 ⟨rfl,hw1⟩)
          (try simp only [Exit.inBlock,Exit.then]);refine bodyPost_ret (results_none rfl _ _ _) rfl ?_
          refine ⟨rfl,?_⟩
          rw [← A.out,pdq_heap h12 rfl]
          exact hAt.step hblk (heapSort_holds S.swo dk a' b' hab' (by omega)).1.1 hw1
        · have hl0z:¬ ((lim:Int)=0):=by omega
          obtain ⟨s1,B1,hc1,s2,B2,hpv,s3,B3⟩:=rd_facts (limit:=lim) (wb:=wb) (wp:=wp) S.swo S.par reverseRange_holds (show a' < b' by omega) (show b'≤dk.size by omega) hBel
          gi_upto_if 35 with fail
          gi_cut [3] from 19 (fun s3 wc=>s3=.int .i64 (rd ltInt dk a' b' lim wb wp).lim∧At encU w blk off (rd ltInt dk a' b' lim wb wp).d1 wc)
          case first =>
            cases wb
            · have hc:=(C.brk blk off cap a' b' dk wr hHk hblk' hab' (by omega) (by omega)).more (show 3≤rm - 1 by omega)
              rw [hds] at hc
              gi_wp2_with (gi_at_fn (ρ.f 12);refine hc.mono ?_;rintro e w1 ⟨rfl,hw1⟩)
              gi_meet
              case rel =>
                refine ⟨?_,hAt.stepG hblk s1 hw1⟩
                show Value.int .i64 ((lim:Int) - 1)=Value.int .i64 ((lim - 1:Nat):Int)
                congr 1
                omega
            · gi_wp2_with fail
              gi_meet
              case rel=>exact ⟨rfl,hAt⟩
          case rest =>
            obtain ⟨rfl,hAt1⟩:=hcut
            obtain ⟨hH1,hblk1⟩:=hAt1.holds hH (s1.trans hds) hblk
            have hc17:CallsIn (Fence.list [ρ.f 5,ρ.f 7,ρ.f 8,ρ.f 10,ρ.f 11,ρ.f 12,ρ.f 13,ρ.f 14,ρ.f 15,ρ.f 16,ρ.f 17,ρ.f 18,ρ.f 20,ρ.f 30,ρ.f 31,ρ.f 32,ρ.f 33,ρ.f 34,ρ.f 35,ρ.f 40] (some D)) (rm - 1) P (ρ.f 13) #[.slice (some ⟨blk,off,none⟩) d.size cap,.int .i64 a',.int .i64 b'] wc fun e w'=>e=.returned (.tuple #[.int .i64 (rd ltInt dk a' b' lim wb wp).c.1,.int .i64 (hintCode (rd ltInt dk a' b' lim wb wp).c.2)])∧∃ n os,w'=grow (Sort.ahead wc n) os:=by
              have:=(C.piv blk off cap a' b' (rd ltInt dk a' b' lim wb wp).d1 wc hH1 hblk1 (by omega) (by omega) (by omega)).more (show 5≤rm - 1 by omega)
              rw [s1,hds] at this
              exact this
            gi_upto_if 50 with (gi_at_fn (ρ.f 13);refine hc17.mono ?_;rintro e w2 ⟨rfl,hw2⟩)
            have hAt2:At encU w blk off (rd ltInt dk a' b' lim wb wp).d1 w2:=hAt1.same hH (s1.trans hds) hblk hw2
            obtain ⟨hH2,hblk2⟩:=hAt2.holds hH (s1.trans hds) hblk
            gi_cut [11,12] from 19 (fun s11 s12 wc=>s11=.int .i64 (rd ltInt dk a' b' lim wb wp).pivot∧s12=.int .i64 (hintCode (rd ltInt dk a' b' lim wb wp).hint)∧At encU w blk off (rd ltInt dk a' b' lim wb wp).d2 wc)
            case first =>
              by_cases hh:(rd ltInt dk a' b' lim wb wp).c.2=.decreasing
              · have hcode:hintCode (rd ltInt dk a' b' lim wb wp).c.2=2:=by rw [hh];rfl
                obtain ⟨e2,epv,eht⟩:=rd_dec hh
                have hc18:=(C.rev blk off cap (rd ltInt dk a' b' lim wb wp).d1 a' b' w2 hH2 hab' (by omega) (by omega)).more (show 0≤rm - 1 by omega)
                rw [s1,hds] at hc18
                gi_wp2_with (gi_at_fn (ρ.f 14);refine hc18.mono ?_;rintro e w3 ⟨rfl,hw3⟩)
                gi_meet
                case rel =>
                  refine ⟨?_,by rw [eht];rfl,by rw [e2];exact hAt2.step hblk (by rw [← e2,s2,s1]) hw3⟩
                  rw [epv]
                  congr 1
                  omega
              · have hcode:¬ (hintCode (rd ltInt dk a' b' lim wb wp).c.2=2):=fun h=>hh (hintCode_two h)
                obtain ⟨e2,epv,eht⟩:=rd_not hh
                gi_wp2_with fail
                gi_meet
                case rel=>exact ⟨by rw [epv],by rw [eht],by rw [e2];exact hAt2⟩
            case rest =>
              obtain ⟨rfl,rfl,hAt3⟩:=hcut
              obtain ⟨hH3,hblk3⟩:=hAt3.holds hH (s2.trans hds) hblk
              gi_upto_region 15 with fail
              gi_cut [12,68] from 19 (fun s12 s68 wx=>s12=.int .i64 (hintCode (rd ltInt dk a' b' lim wb wp).hint)∧s68=.bool (wb && wp && decide ((rd ltInt dk a' b' lim wb wp).hint=.increasing))∧wx=wc)
              case first =>
                cases wb <;> cases wp <;> cases hh3:(rd ltInt dk a' b' lim _ _).hint <;>
                  (have hcode3:=congrArg hintCode hh3
                   simp only [hintCode] at hcode3
                   gi_wp2_with fail
                   gi_meet
                   exact ⟨by simp [hh3,hintCode],by simp [hh3,hintCode],rfl⟩)
              case rest =>
                obtain ⟨rfl,rfl,rfl⟩:=hcut
                gi_upto_if 68 with fail
                gi_cut [] from 19 (fun wx=>(rd ltInt dk a' b' lim wb wp).pi.2=false∧At encU w blk off (rd ltInt dk a' b' lim wb wp).pi.1 wx)
                case first =>
                  cases h68:(wb && wp && decide ((rd ltInt dk a' b' lim wb wp).hint=.increasing))
                  · have epi:=rd_pi_no h68
                    gi_wp2_with fail
                    gi_meet
                    case rel=>exact ⟨by rw [epi],by rw [epi];exact hAt3⟩
                  · have epi:=rd_pi_yes h68
                    have hc19:=(C.par blk off cap a' b' (rd ltInt dk a' b' lim wb wp).d2 wc hH3 (by omega) (by omega) (by omega)).more (show 2≤rm - 1 by omega)
                    rw [s2,hds,← epi] at hc19
                    gi_wp2_with (gi_at_fn (ρ.f 15);refine hc19.mono ?_;rintro e w4 ⟨rfl,hw4⟩)
                    all_goals first
                      | (have hp2:(rd ltInt dk a' b' lim wb wp).pi.2=false:=by rw [epi];assumption
                         gi_meet
                         exact ⟨hp2,hAt3.step hblk (by rw [s3,s2]) hw4⟩)
                      | (have hp2:(rd ltInt dk a' b' lim wb wp).pi.2=true:=by rw [epi];assumption
                         (try simp only [Exit.inBlock,Exit.then]);refine bodyPost_ret (results_none rfl _ _ _) rfl ?_
                         refine ⟨rfl,?_⟩
                         rw [← A.out,pdq_done h12 hl0 hp2]
                         exact hAt3.step hblk (by rw [s3,s2]) hw4)
                case rest =>
                  obtain ⟨hp2,hAt5⟩:=hcut
                  obtain ⟨hH5,hblk5⟩:=hAt5.holds hH (s3.trans hds) hblk
                  have hcw:∀ t,t < d.size→wc.cell? ⟨blk,off+t,none⟩=some (.int .u32 (rd ltInt dk a' b' lim wb wp).pi.1[t]!):=fun t ht=>(hH5 t (by omega)).1
                  have hfw:∀ t,t < d.size→wc.frozen? ⟨blk,off+t,none⟩=false:=fun t ht=>(hH5 t (by omega)).2
                  gi_upto_region 17 with fail
                  gi_cut [87] from 19 (fun s87 wx=>s87=.bool (decide (a' > 0) && !ltInt (rd ltInt dk a' b' lim wb wp).pi.1[a' - 1]! (rd ltInt dk a' b' lim wb wp).pi.1[(rd ltInt dk a' b' lim wb wp).pivot]!)∧At encU w blk off (rd ltInt dk a' b' lim wb wp).pi.1 wx)
                  case first =>
                    rcases Nat.eq_zero_or_pos a' with ha0 | ha0
                    · have ha0z:decide ((a':Int) > 0)=false:=decide_eq_false (by omega)
                      gi_big_quiet_th_o (first | (gi_at_fn (ρ.f 16);refine CallsIn.quiet_of_same ((AnySU.cmp_Less_intIn { Ly with } D _ _ _).more (show 1≤rm - 1 by omega))))
                      gi_wp2_with fail
                      gi_meet
                      case rel=>exact ⟨by simp [ha0],hAt5.ahead nq⟩
                    · have ha0z:(a':Int) > 0:=by omega
                      gi_big_quiet_th_o (first | (gi_at_fn (ρ.f 16);refine CallsIn.quiet_of_same ((AnySU.cmp_Less_intIn { Ly with } D _ _ _).more (show 1≤rm - 1 by omega))))
                      gi_wp2_with fail
                      gi_meet
                      case rel=>exact ⟨by simp [ha0],hAt5.ahead nq⟩
                  case rest =>
                    obtain ⟨rfl,hAt6⟩:=hcut
                    obtain ⟨hH6,hblk6⟩:=hAt6.holds hH (s3.trans hds) hblk
                    clear hcw hfw
                    cases h87:(decide (a' > 0) && !ltInt (rd ltInt dk a' b' lim wb wp).pi.1[a' - 1]! (rd ltInt dk a' b' lim wb wp).pi.1[(rd ltInt dk a' b' lim wb wp).pivot]!)
                    ·
                      obtain ⟨mid,ap,d4,hx⟩:∃ mid ap d4,partition ltInt (rd ltInt dk a' b' lim wb wp).pi.1 a' b' (rd ltInt dk a' b' lim wb wp).pivot=(mid,ap,d4):=⟨(partition ltInt (rd ltInt dk a' b' lim wb wp).pi.1 a' b' (rd ltInt dk a' b' lim wb wp).pivot).1,(partition ltInt (rd ltInt dk a' b' lim wb wp).pi.1 a' b' (rd ltInt dk a' b' lim wb wp).pivot).2.1,(partition ltInt (rd ltInt dk a' b' lim wb wp).pi.1 a' b' (rd ltInt dk a' b' lim wb wp).pivot).2.2,rfl⟩
                      obtain ⟨r1,r2,r3,r4,r5,r6,r7⟩:=round_part S.swo S.prt hpv.1 hpv.2 (show b'≤(rd ltInt dk a' b' lim wb wp).pi.1.size by omega) B3 hx
                      have hc22:=(C.prt blk off cap a' b' (rd ltInt dk a' b' lim wb wp).pivot (rd ltInt dk a' b' lim wb wp).pi.1 wc hH6 hpv.1 hpv.2 (by omega) (by omega)).more (show 2≤rm - 1 by omega)
                      rw [s3,hds,hx] at hc22
                      have X:Aside (partition ltInt (rd ltInt dk a' b' lim wb wp).pi.1 a' b' (rd ltInt dk a' b' lim wb wp).pivot=(mid,ap,d4)):=hx
                      clear hx
                      gi_upto_if 113 with (gi_at_fn (ρ.f 18);refine hc22.mono ?_;rintro e w7 ⟨rfl,hw7⟩)
                      have hx:=X.out
                      have hAt7:At encU w blk off d4 w7:=hAt6.step hblk r3 hw7
                      obtain ⟨hH7,hblk7⟩:=hAt7.holds hH (r3.trans (s3.trans hds)) hblk
                      by_cases h4:mid - a' < b' - mid
                      · have h4z:(mid:Int) - (a':Int) < (b':Int) - (mid:Int):=by omega
                        have hdl:=pdqDepth_left h12 hl0 hp2 h87 (by rw [hx];exact ⟨r1,r2⟩) (by rw [hx];exact h4)
                        rw [hx] at hdl
                        dsimp only at hdl
                        have hih:=ih (rm - 1) blk off cap a' mid (rd ltInt dk a' b' lim wb wp).lim d4 w7 (by omega) (by have:=hdl.1;omega) hH7 hblk7 (by omega) (by omega) (by omega) (Nat.lt_of_le_of_lt (Nat.le_trans rd_lim_le hlim) hlimit) r4
                        rw [r3,s3,hds] at hih
                        obtain ⟨pL,sL⟩:=S.pdq S.swo d4 a' mid (rd ltInt dk a' b' lim wb wp).lim true true (by omega) (by omega) r4
                        gi_wp2_with (gi_at_fn (ρ.f 7);refine hih.mono ?_;rintro e w8 ⟨rfl,hw8⟩)
                        gi_roundg (b' - (mid+1))
                        case measure=>omega
                        case rel =>
                          refine ⟨mid+1,b',(rd ltInt dk a' b' lim wb wp).lim,decide (mid - a' ≥ (b' - a') / 8),ap,pdq ltInt d4 a' mid (rd ltInt dk a' b' lim wb wp).lim true true,by simp,rfl,rfl,?_,rfl,by omega,by omega,Nat.le_refl _,by omega,Nat.le_trans rd_lim_le hlim,by rw [pL.1,r3,s3,hds],(r6 _ pL sL).1,hAt7.stepG hblk pL.1 hw8,?_,by have:=hdl.2;omega⟩
                          · exact congrArg Value.bool (eighth (by omega) (by omega))
                          · rw [← A.out,pdq_left h12 hl0 hp2 h87 (by rw [hx];exact ⟨r1,r2⟩) (by rw [hx];exact h4),hx]
                      · have h4z:¬ ((mid:Int) - (a':Int) < (b':Int) - (mid:Int)):=by omega
                        have hdl:=pdqDepth_right h12 hl0 hp2 h87 (by rw [hx];exact ⟨r1,r2⟩) (by rw [hx];exact h4)
                        rw [hx] at hdl
                        dsimp only at hdl
                        have hih:=ih (rm - 1) blk off cap (mid+1) b' (rd ltInt dk a' b' lim wb wp).lim d4 w7 (by omega) (by have:=hdl.1;omega) hH7 hblk7 (by omega) (by omega) (by omega) (Nat.lt_of_le_of_lt (Nat.le_trans rd_lim_le hlim) hlimit) r5
                        rw [r3,s3,hds] at hih
                        obtain ⟨pL,sL⟩:=S.pdq S.swo d4 (mid+1) b' (rd ltInt dk a' b' lim wb wp).lim true true (by omega) (by omega) r5
                        gi_wp2_with (gi_at_fn (ρ.f 7);refine hih.mono ?_;rintro e w8 ⟨rfl,hw8⟩)
                        gi_roundg (mid - a')
                        case measure=>omega
                        case rel =>
                          refine ⟨a',mid,(rd ltInt dk a' b' lim wb wp).lim,decide (b' - mid ≥ (b' - a') / 8),ap,pdq ltInt d4 (mid+1) b' (rd ltInt dk a' b' lim wb wp).lim true true,rfl,rfl,rfl,?_,rfl,by omega,by omega,Nat.le_refl _,by omega,Nat.le_trans rd_lim_le hlim,by rw [pL.1,r3,s3,hds],(r7 _ pL sL).1,hAt7.stepG hblk pL.1 hw8,?_,by have:=hdl.2;omega⟩
                          · exact congrArg Value.bool (eighth (by omega) (by omega))
                          · rw [← A.out,pdq_right h12 hl0 hp2 h87 (by rw [hx];exact ⟨r1,r2⟩) (by rw [hx];exact h4),hx]
                    ·
                      have h87':=h87
                      simp only [Bool.and_eq_true,decide_eq_true_eq,Bool.not_eq_true'] at h87'
                      obtain ⟨mid,d4,hx⟩:∃ mid d4,partitionEqual ltInt (rd ltInt dk a' b' lim wb wp).pi.1 a' b' (rd ltInt dk a' b' lim wb wp).pivot=(mid,d4):=⟨(partitionEqual ltInt (rd ltInt dk a' b' lim wb wp).pi.1 a' b' (rd ltInt dk a' b' lim wb wp).pivot).1,(partitionEqual ltInt (rd ltInt dk a' b' lim wb wp).pi.1 a' b' (rd ltInt dk a' b' lim wb wp).pivot).2,rfl⟩
                      obtain ⟨r1,r2,r3,r4,_⟩:=round_eq S.swo S.peq h87'.1 hpv.1 hpv.2 (show b'≤(rd ltInt dk a' b' lim wb wp).pi.1.size by omega) B3 h87'.2 hx
                      have hc21:=(C.peq blk off cap a' b' (rd ltInt dk a' b' lim wb wp).pivot (rd ltInt dk a' b' lim wb wp).pi.1 wc hH6 hpv.1 hpv.2 (by omega) (by omega)).more (show 2≤rm - 1 by omega)
                      rw [s3,hds,hx] at hc21
                      have X:Aside (partitionEqual ltInt (rd ltInt dk a' b' lim wb wp).pi.1 a' b' (rd ltInt dk a' b' lim wb wp).pivot=(mid,d4)):=hx
                      clear hx
                      gi_wp2_with (gi_at_fn (ρ.f 17);refine hc21.mono ?_;rintro e w7 ⟨rfl,hw7⟩)
                      gi_roundg (b' - mid)
                      case measure=>omega
                      case rel =>
                        have hx:=X.out
                        exact ⟨mid,b',(rd ltInt dk a' b' lim wb wp).lim,wb,wp,d4,rfl,rfl,rfl,rfl,rfl,r2,hb',Nat.le_refl _,by omega,Nat.le_trans rd_lim_le hlim,by rw [r3,s3,hds],r4,hAt6.step hblk r3 hw7,by rw [← A.out,pdq_eq h12 hl0 hp2 h87 (by rw [hx];exact ⟨r1,r2⟩),hx],by have hde:=pdqDepth_eq h12 hl0 hp2 h87 (by rw [hx];exact ⟨r1,r2⟩);rw [hx] at hde;dsimp only at hde;omega⟩
end Go.Proofs.YtiomgckodmecbaaGreat
namespace Go.Proofs.YtiomgckodmecbaaGreat
open Go.Shelf
variable {P:Program} {ρ:Ren}
open Go.RowKit Go.Sort
def pdqWalkIn_intU (P:Program) (ρ:Ren) (D:Nat):Prop:=∀ (rm blk off cap a b limit:Nat) (d:Array Int) (w:World),pdqDepth ltInt d a b limit true true+6≤rm→Holds (Value.int .u32) w blk off d→blk < w.heap.size→a≤b→b≤d.size→d.size < 4611686018427387904→limit < 4611686018427387904→Below ltInt a b d →
 CallsIn (Fence.list [ρ.f 5,ρ.f 7,ρ.f 8,ρ.f 10,ρ.f 11,ρ.f 12,ρ.f 13,ρ.f 14,ρ.f 15,ρ.f 16,ρ.f 17,ρ.f 18,ρ.f 20,ρ.f 30,ρ.f 31,ρ.f 32,ρ.f 33,ρ.f 34,ρ.f 35,ρ.f 40] (some D)) rm P (ρ.f 7) #[.slice (some ⟨blk,off,none⟩) d.size cap,.int .i64 a,.int .i64 b,.int .i64 limit] w fun e w' =>
  e=.returned (.tuple #[])∧∃ n os,w'=grow (putRow (Value.int .u32) (Sort.ahead w n) blk off (Sort.pdq ltInt d a b limit true true)) os
def lenWalkInU (P:Program) (ρ:Ren) (D:Nat):Prop:=∀ (n:Nat) (w:World),n < 4611686018427387904→CallsIn (Fence.list [ρ.f 5,ρ.f 7,ρ.f 8,ρ.f 10,ρ.f 11,ρ.f 12,ρ.f 13,ρ.f 14,ρ.f 15,ρ.f 16,ρ.f 17,ρ.f 18,ρ.f 20,ρ.f 30,ρ.f 31,ρ.f 32,ρ.f 33,ρ.f 34,ρ.f 35,ρ.f 40] (some D)) 1 P (ρ.f 8) #[.int .u64 (n:Int)] w fun e w'=>e=.returned (.int .i64 (bitsLen n:Nat))∧w'=w
theorem AnySU.Sort_intIn (Ly:SlW32.n5 P ρ) (D:Nat) (hpdq:pdqWalkIn_intU P ρ D) (hlen:lenWalkInU P ρ D) (blk off cap:Nat) (d:Array Int) (w:World) (hH:Holds (Value.int .u32) w blk off d) (hblk:blk < w.heap.size) (hsz:d.size < 4611686018427387904) :
  CallsIn (Fence.list [ρ.f 5,ρ.f 7,ρ.f 8,ρ.f 10,ρ.f 11,ρ.f 12,ρ.f 13,ρ.f 14,ρ.f 15,ρ.f 16,ρ.f 17,ρ.f 18,ρ.f 20,ρ.f 30,ρ.f 31,ρ.f 32,ρ.f 33,ρ.f 34,ρ.f 35,ρ.f 40] (some D)) 66 P (ρ.f 5) #[.slice (some ⟨blk,off,none⟩) d.size cap] w fun e w'=>e=.returned (.tuple #[])∧∃ n os,w'=grow (putRow (Value.int .u32) (Sort.ahead w n) blk off (Sort.sort ltInt d)) os:=by
 have HH:Hid (Holds (Value.int .u32) w blk off d):=hH
 clear hH
 have hk:bitsLen d.size≤62:=(bitsLen_le_iff d.size 62).2 (by omega)
 have hdp:=pdqDepth_le_59 ltInt d 0 d.size (bitsLen d.size) true true (by omega)
 have mixed:=Ly.mixed
 have t0:=Ly.t0;have a0:=Ly.a0;have z0:=Ly.z0;have v0:=Ly.v0;have t3:=Ly.t3;have a3:=Ly.a3;have z3:=Ly.z3;have v3:=Ly.v3;have t4:=Ly.t4;have a4:=Ly.a4;have z4:=Ly.z4;have v4:=Ly.v4;have t5:=Ly.t5;have a5:=Ly.a5;have z5:=Ly.z5;have v5:=Ly.v5;have t9:=Ly.t9;have a9:=Ly.a9;have z9:=Ly.z9;have v9:=Ly.v9;have t22:=Ly.t22;have a22:=Ly.a22;have z22:=Ly.z22;have v22:=Ly.v22;have t23:=Ly.t23;have a23:=Ly.a23;have z23:=Ly.z23;have v23:=Ly.v23;have t25:=Ly.t25;have a25:=Ly.a25;have z25:=Ly.z25;have v25:=Ly.v25;have t32:=Ly.t32;have a32:=Ly.a32;have z32:=Ly.z32;have v32:=Ly.v32;have t35:=Ly.t35;have a35:=Ly.a35;have z35:=Ly.z35;have v35:=Ly.v35;have t36:=Ly.t36;have a36:=Ly.a36;have z36:=Ly.z36;have v36:=Ly.v36;have t41:=Ly.t41;have a41:=Ly.a41;have z41:=Ly.z41;have v41:=Ly.v41;have t44:=Ly.t44;have a44:=Ly.a44;have z44:=Ly.z44;have v44:=Ly.v44;have t46:=Ly.t46;have a46:=Ly.a46;have z46:=Ly.z46;have v46:=Ly.v46;have t53:=Ly.t53;have a53:=Ly.a53;have z53:=Ly.z53;have v53:=Ly.v53;have t57:=Ly.t57;have a57:=Ly.a57;have z57:=Ly.z57;have v57:=Ly.v57;have t63:=Ly.t63;have a63:=Ly.a63;have z63:=Ly.z63;have v63:=Ly.v63;have t64:=Ly.t64;have a64:=Ly.a64;have z64:=Ly.z64;have v64:=Ly.v64
 have e125:∀ args w,(callFunc (ρ.f 8) args).run P w=.ok (.enter (ρ.f 8) args) w:=enters_of Ly.f8 (by kernel_rfl) rfl
 have e257:∀ args w,(callFunc (ρ.f 7) args).run P w=.ok (.enter (ρ.f 7) args) w:=Ly.f7.enters rfl
 obtain ⟨_,_,FG⟩:=Ly.f5
 gi_enter FG,SlBodyM.n5_ntmps ρ
 gi_wp2_with (first
  | (gi_at_fn (ρ.f 8);refine ((hlen d.size _ hsz).more (by decide)).mono ?_;rintro e w' ⟨rfl,rfl⟩)
  | (gi_at_fn (ρ.f 7);refine (hpdq 65 blk off cap 0 d.size (bitsLen d.size) d _ (by omega) (by exact HH.out) (by exact hblk) (Nat.zero_le _) (Nat.le_refl _) hsz (by omega) (Or.inl rfl)).mono ?_;rintro e w' ⟨rfl,n,os,rfl⟩))
 go_end0
 exact ⟨rfl,n,os,rfl⟩
end Go.Proofs.YtiomgckodmecbaaGreat
namespace Go.Proofs.YtiomgckodmecbaaGreat
open Go.Shelf
variable {P:Program} {ρ:Ren}
open Go.Sort
theorem callees13InU (Ly:SlW32.n7 P ρ) (D:Nat):Callees13InU P ρ D where
 heap:=AnySU.heapSort_intIn { Ly with } D
 rev:=AnySU.reverseRange_intIn { Ly with } D
 ins:=AnySU.insertionSort_intIn { Ly with } D
 brk:=AnySU.breakPatterns_intIn { Ly with } D
 piv:=AnySU.choosePivot_intIn { Ly with } D
 par:=AnySU.partialInsertionSort_intIn { Ly with } D
 peq:=AnySU.partitionEqualOrdered_intIn { Ly with } D
 prt:=AnySU.partitionOrdered_intIn { Ly with } D
theorem plain13DU:Plain13 where
 swo:=swo_ltInt
 ins:=insertionSort_holds
 par:=partialInsertionSort_holds
 prt:=partition_holds _
 peq:=partitionEqual_holds _
 pdq:=pdq_sorts _
theorem pdqWalkInIntU (Ly:SlW32.n7 P ρ) (D:Nat):pdqWalkIn_intU P ρ D:=fun rm blk off cap a b limit d w hrm hH hb hab hbd hsz hl hB =>
 AnySU.pdqsort_intIn { Ly with } D (callees13InU { Ly with } D) plain13DU (b - a+1) rm blk off cap a b limit d w (by omega) hrm hH hb hab hbd hsz hl hB
theorem lenWalkInAllU (Ly:SlW32.n8 P ρ) (D:Nat):lenWalkInU P ρ D:=fun n w hn=>by
 have h:=AnySU.bits_LenIn { Ly with } D (n:Int) w (by omega) (by omega)
 rwa [Int.toNat_natCast,bitLen_eq _ (by omega)] at h
theorem sort_int_eqDU (zs:List Int):Sort.sort ltInt zs.toArray=(zs.mergeSort fun x y=>decide (x≤y)).toArray:=by
 rw [← sortInt zs]
theorem AnySU.slices_Sort_int_in (Ly:SlW32.n5 P ρ) (D blk off cap:Nat) (zs:List Int) (w:World) (hH:Holds (Value.int .u32) w blk off zs.toArray) (hblk:blk < w.heap.size) (hsz:zs.length < 4611686018427387904) :
  CallsIn (Fence.list [ρ.f 5,ρ.f 7,ρ.f 8,ρ.f 10,ρ.f 11,ρ.f 12,ρ.f 13,ρ.f 14,ρ.f 15,ρ.f 16,ρ.f 17,ρ.f 18,ρ.f 20,ρ.f 30,ρ.f 31,ρ.f 32,ρ.f 33,ρ.f 34,ρ.f 35,ρ.f 40] (some D)) 66 P (ρ.f 5) #[.slice (some ⟨blk,off,none⟩) zs.length cap] w fun e w' =>
   e=.returned (.tuple #[])∧∃ n os,w'=grow (putRow (Value.int .u32) (Sort.ahead w n) blk off (zs.mergeSort fun x y=>decide (x≤y)).toArray) os:=by
 have h:=AnySU.Sort_intIn { Ly with } D (pdqWalkInIntU { Ly with } D) (lenWalkInAllU { Ly with } D) blk off cap zs.toArray w hH hblk (by simpa using hsz)
 rw [sort_int_eqDU] at h
 simpa using h
end Go.Proofs.YtiomgckodmecbaaGreat
namespace Go.Proofs.YtiomgckodmecbaaGreat
open Go.Shelf Go.Sort Go.RowKit
variable {P:Program} {ρ:Ren}
theorem AnyU.slices_Sort_int (Ly:SlW32.n5 P ρ) (blk off cap:Nat) (zs:List Int) (w:World) (hH:Holds (Value.int .u32) w blk off zs.toArray) (hblk:blk < w.heap.size) (hsz:zs.length < 4611686018427387904) :
  Calls P (ρ.f 5) #[.slice (some ⟨blk,off,none⟩) zs.length cap] w fun e w' =>
   e=.returned (.tuple #[])∧∃ n os,w'=grow (putRow (Value.int .u32) (Sort.ahead w n) blk off (zs.mergeSort fun x y=>decide (x≤y)).toArray) os :=
 calls_of_every_depth fun D=>AnySU.slices_Sort_int_in Ly D blk off cap zs w hH hblk hsz
end Go.Proofs.YtiomgckodmecbaaGreat
namespace Go.Proofs.YtiomgckodmecbaaGreat
open Go.Shelf Go.RowKit Go.Sort
variable {P:Program} {ρ:Ren}
theorem AnySU.insertionSort_int_none_in (L:SlW32.n10 P ρ) (D:Nat) (p:Option Addr) (cap:Nat) (w:World) :
  CallsIn (Fence.list [ρ.f 5,ρ.f 7,ρ.f 8,ρ.f 10,ρ.f 11,ρ.f 12,ρ.f 13,ρ.f 14,ρ.f 15,ρ.f 16,ρ.f 17,ρ.f 18,ρ.f 20,ρ.f 30,ρ.f 31,ρ.f 32,ρ.f 33,ρ.f 34,ρ.f 35,ρ.f 40] (some D)) 0 P (ρ.f 10) #[.slice p 0 cap,.int .i64 0,.int .i64 0] w fun e w'=>e=.returned (.tuple #[])∧w'=w:=by
 have mixed:=L.mixed;have t0:=L.t0;have a0:=L.a0;have z0:=L.z0;have v0:=L.v0;have t3:=L.t3;have a3:=L.a3;have z3:=L.z3;have v3:=L.v3;have t4:=L.t4;have a4:=L.a4;have z4:=L.z4;have v4:=L.v4;have t22:=L.t22;have a22:=L.a22;have z22:=L.z22;have v22:=L.v22;have t25:=L.t25;have a25:=L.a25;have z25:=L.z25;have v25:=L.v25
 obtain ⟨_,_,FG⟩:=L.f10
 gi_enter FG,SlBodyM.n10_ntmps ρ
 gi_wp2
 refine wpIn_loop_rounds 1 ?_
 rw [roundsIn_succ]
 gi_wp2
 go_end0
 exact ⟨rfl,rfl⟩
theorem AnySU.pdqsort_int_none_in (L:SlW32.n7 P ρ) (D:Nat) (p:Option Addr) (cap:Nat) (w:World) :
  CallsIn (Fence.list [ρ.f 5,ρ.f 7,ρ.f 8,ρ.f 10,ρ.f 11,ρ.f 12,ρ.f 13,ρ.f 14,ρ.f 15,ρ.f 16,ρ.f 17,ρ.f 18,ρ.f 20,ρ.f 30,ρ.f 31,ρ.f 32,ρ.f 33,ρ.f 34,ρ.f 35,ρ.f 40] (some D)) 1 P (ρ.f 7) #[.slice p 0 cap,.int .i64 0,.int .i64 0,.int .i64 0] w fun e w'=>e=.returned (.tuple #[])∧w'=w:=by
 have mixed:=L.mixed;have t0:=L.t0;have a0:=L.a0;have z0:=L.z0;have v0:=L.v0;have t3:=L.t3;have a3:=L.a3;have z3:=L.z3;have v3:=L.v3;have t4:=L.t4;have a4:=L.a4;have z4:=L.z4;have v4:=L.v4;have t5:=L.t5;have a5:=L.a5;have z5:=L.z5;have v5:=L.v5;have t9:=L.t9;have a9:=L.a9;have z9:=L.z9;have v9:=L.v9;have t22:=L.t22;have a22:=L.a22;have z22:=L.z22;have v22:=L.v22;have t25:=L.t25;have a25:=L.a25;have z25:=L.z25;have v25:=L.v25;have t32:=L.t32;have a32:=L.a32;have z32:=L.z32;have v32:=L.v32;have t35:=L.t35;have a35:=L.a35;have z35:=L.z35;have v35:=L.v35;have t36:=L.t36;have a36:=L.a36;have z36:=L.z36;have v36:=L.v36;have t41:=L.t41;have a41:=L.a41;have z41:=L.z41;have v41:=L.v41;have t44:=L.t44;have a44:=L.a44;have z44:=L.z44;have v44:=L.v44;have t46:=L.t46;have a46:=L.a46;have z46:=L.z46;have v46:=L.v46;have t53:=L.t53;have a53:=L.a53;have z53:=L.z53;have v53:=L.v53;have t57:=L.t57;have a57:=L.a57;have z57:=L.z57;have v57:=L.v57;have t63:=L.t63;have a63:=L.a63;have z63:=L.z63;have v63:=L.v63;have t64:=L.t64;have a64:=L.a64;have z64:=L.z64;have v64:=L.v64
 have e294:∀ args w,(callFunc (ρ.f 10) args).run P w=.ok (.enter (ρ.f 10) args) w:=L.f10.enters rfl
 obtain ⟨_,_,FG⟩:=L.f7
 gi_enter FG,SlBodyM.n7_ntmps ρ
 gi_wp2
 refine wpIn_loop_rounds 1 ?_
 rw [roundsIn_succ]
 gi_wp2_with (gi_at_fn (ρ.f 10);refine (AnySU.insertionSort_int_none_in { L with } D p cap _).mono ?_;rintro e w' ⟨rfl,rfl⟩)
 (try simp only [Exit.inBlock,Exit.then]);refine bodyPost_ret (results_none rfl _ _ _) rfl ?_
 exact ⟨rfl,rfl⟩
theorem AnySU.slices_Sort_int_none_in (L:SlW32.n5 P ρ) (D:Nat) (p:Option Addr) (cap:Nat) (w:World) :
  CallsIn (Fence.list [ρ.f 5,ρ.f 7,ρ.f 8,ρ.f 10,ρ.f 11,ρ.f 12,ρ.f 13,ρ.f 14,ρ.f 15,ρ.f 16,ρ.f 17,ρ.f 18,ρ.f 20,ρ.f 30,ρ.f 31,ρ.f 32,ρ.f 33,ρ.f 34,ρ.f 35,ρ.f 40] (some D)) 2 P (ρ.f 5) #[.slice p 0 cap] w fun e w'=>e=.returned (.tuple #[])∧w'=w:=by
 have hLen:∀ w,CallsIn (Fence.list [ρ.f 5,ρ.f 7,ρ.f 8,ρ.f 10,ρ.f 11,ρ.f 12,ρ.f 13,ρ.f 14,ρ.f 15,ρ.f 16,ρ.f 17,ρ.f 18,ρ.f 20,ρ.f 30,ρ.f 31,ρ.f 32,ρ.f 33,ρ.f 34,ρ.f 35,ρ.f 40] (some D)) 1 P (ρ.f 8) #[.int .u64 0] w fun e w'=>e=.returned (.int .i64 0)∧w'=w:=fun w=>AnySU.bits_LenIn { L with } D 0 w (by omega) (by omega)
 have mixed:=L.mixed;have t0:=L.t0;have a0:=L.a0;have z0:=L.z0;have v0:=L.v0;have t3:=L.t3;have a3:=L.a3;have z3:=L.z3;have v3:=L.v3;have t4:=L.t4;have a4:=L.a4;have z4:=L.z4;have v4:=L.v4;have t5:=L.t5;have a5:=L.a5;have z5:=L.z5;have v5:=L.v5;have t9:=L.t9;have a9:=L.a9;have z9:=L.z9;have v9:=L.v9;have t22:=L.t22;have a22:=L.a22;have z22:=L.z22;have v22:=L.v22;have t23:=L.t23;have a23:=L.a23;have z23:=L.z23;have v23:=L.v23;have t25:=L.t25;have a25:=L.a25;have z25:=L.z25;have v25:=L.v25;have t32:=L.t32;have a32:=L.a32;have z32:=L.z32;have v32:=L.v32;have t35:=L.t35;have a35:=L.a35;have z35:=L.z35;have v35:=L.v35;have t36:=L.t36;have a36:=L.a36;have z36:=L.z36;have v36:=L.v36;have t41:=L.t41;have a41:=L.a41;have z41:=L.z41;have v41:=L.v41;have t44:=L.t44;have a44:=L.a44;have z44:=L.z44;have v44:=L.v44;have t46:=L.t46;have a46:=L.a46;have z46:=L.z46;have v46:=L.v46;have t53:=L.t53;have a53:=L.a53;have z53:=L.z53;have v53:=L.v53;have t57:=L.t57;have a57:=L.a57;have z57:=L.z57;have v57:=L.v57;have t63:=L.t63;have a63:=L.a63;have z63:=L.z63;have v63:=L.v63;have t64:=L.t64;have a64:=L.a64;have z64:=L.z64;have v64:=L.v64
 have e125:∀ args w,(callFunc (ρ.f 8) args).run P w=.ok (.enter (ρ.f 8) args) w:=enters_of L.f8 (by kernel_rfl) rfl
 have e257:∀ args w,(callFunc (ρ.f 7) args).run P w=.ok (.enter (ρ.f 7) args) w:=L.f7.enters rfl
 obtain ⟨_,_,FG⟩:=L.f5
 gi_enter FG,SlBodyM.n5_ntmps ρ
 gi_wp2_with (first
  | (gi_at_fn (ρ.f 8);refine (hLen _).mono ?_;rintro e w' ⟨rfl,rfl⟩)
  | (gi_at_fn (ρ.f 7);refine (AnySU.pdqsort_int_none_in { L with } D p cap _).mono ?_;rintro e w' ⟨rfl,rfl⟩))
 go_end0
 exact ⟨rfl,rfl⟩
theorem AnyU.slices_Sort_int_none (L:SlW32.n5 P ρ) (p:Option Addr) (cap:Nat) (w:World) :
  Calls P (ρ.f 5) #[.slice p 0 cap] w fun e w'=>e=.returned (.tuple #[])∧w'=w :=
 calls_of_every_depth fun D=>AnySU.slices_Sort_int_none_in L D p cap w
end Go.Proofs.YtiomgckodmecbaaGreat
namespace Go.Tk
open Go.RowKit Go.Sort
section
variable {P:Program} {ops:Array Oper} {C:World→Prop} {Q:Exit→Act→World→Prop}
theorem wpQuiet_nil_eq {L:Act→Prop} {a:Act}:wpQuiet P ops C L [] a=L a:=by rw [wpQuiet]
theorem wpPh_go_eq {is:List Nat} {e:Nat} {x:List Nat × Nat} {r:List (List Nat × Nat)} {a:Act} {w:World}:wpPh P ops C Q ((is,e) :: x :: r) a w=wpQuiet P ops C (fun a'=>effStep P ops C (ops.toList.getD e default) a' w (wpPh P ops C Q (x :: r))) (pick ops.toList is) a:=by rw [wpPh]
theorem wpPh_end_eq {is:List Nat} {e:Nat} {a:Act} {w:World}:wpPh P ops C Q [(is,e)] a w=wpQuiet P ops C (fun a'=>wpList P ops Q (pick ops.toList [e]) a' w) (pick ops.toList is) a:=by rw [wpPh]
theorem effStep_skip_eq {o:Oper} {a:Act} {w:World} {K:Act→World→Prop} (hg:Region.wanted o (yielded ops a.tmps)=false):effStep P ops C o a w K=K (a.put o.dst undef) w:=by
 unfold effStep
 rw [if_neg (by rw [hg] <;> decide)]
end
end Go.Tk
namespace Go.Tk
open Go.RowKit Go.Sort
section
variable {P:Program} {ops:Array Oper} {md:Region.Mode} {Q:Exit→Act→World→Prop}
def slotA (a:Act) (s:Nat):Value:=a.tmps.getD s undef
def dstOf (ops:Array Oper) (i:Nat):Nat:=((ops[i]?).bind (·.dst)).getD 0
def anyB (ops:Array Oper) (m:Nat):Bool:=(List.range ops.size).all fun i=>match ops[i]? with
 | some o=>o.guard.isNone && (match o.dst with | some d=>decide (d < m) | none=>false) && o.after.all (fun e=>decide (e.on < i)) && (List.range i).all (fun j=>dstOf ops j != dstOf ops i)
 | none=>false
structure AI (ops:Array Oper) (w:World) (a0:Act) (V:Nat→Value→World→Prop) (listed:Array Bool) (a:Act) (w':World):Prop where
 same:Same w w'
 size:a.tmps.size=a0.tmps.size
 defers:a.defers=a0.defers
 old:∀ s,(∀ i,i < ops.size→dstOf ops i≠s)→slotA a s=slotA a0 s
 new:∀ i,i < ops.size→listed.getD i false=true→V i (slotA a (dstOf ops i)) w'
 ls:listed.size=ops.size
theorem slotA_same (a:Act) (d:Nat) (v:Value) (h:d < a.tmps.size):slotA (a.put (some d) v) d=v:=by
 simp [slotA,Act.put,h]
theorem slotA_ne (a:Act) (d s:Nat) (v:Value) (h:d≠s):slotA (a.put (some d) v) s=slotA a s:=by
 simp [slotA,Act.put,Array.getElem?_setIfInBounds_ne h]
theorem wpAny_facts {w:World} {a0:Act} {V:Nat→Value→World→Prop} (hB:anyB ops a0.tmps.size=true)
  (hst:∀ i v w1 w2,V i v w1→Same w1 w2→V i v w2)
  (hop:∀ (i:Nat) (o:Oper),ops[i]?=some o→∀ (a:Act) (w':World),Same w w'→a.tmps.size=a0.tmps.size→a.defers=a0.defers→(∀ s,(∀ j,j < ops.size→dstOf ops j≠s)→slotA a s=slotA a0 s) →
   (∀ e∈o.after,Region.binds md e=true→V e.on (slotA a (dstOf ops e.on)) w')→o.wp P a w' (fun a2 w2=>∃ v,a2=a.put o.dst v∧Same w' w2∧V i v w2) (fun _ _ _=>False))
  (hq:∀ (a:Act) (w':World),Same w w'→a.tmps.size=a0.tmps.size→a.defers=a0.defers→(∀ s,(∀ j,j < ops.size→dstOf ops j≠s)→slotA a s=slotA a0 s)→(∀ i,i < ops.size→V i (slotA a (dstOf ops i)) w')→Q .normal a w') :
  ∀ (f:Nat) (listed:Array Bool) (a:Act) (w':World),AI ops w a0 V listed a w'→((List.range ops.size).filter fun i=>!listed.getD i true).length≤f→wpAny P md ops Q f listed a w':=by
 have hB':∀ (i:Nat) (o:Oper),ops[i]?=some o→o.guard=none∧(∃ d,o.dst=some d∧d < a0.tmps.size∧dstOf ops i=d)∧(∀ e∈o.after,e.on < i)∧∀ j,j < i→dstOf ops j≠dstOf ops i:=by
  intro i o ho
  have hi:=(Array.getElem?_eq_some_iff.1 ho).1
  have h:=(List.all_eq_true.1 hB) i (List.mem_range.2 hi)
  rw [ho] at h
  simp only [Bool.and_eq_true,List.all_eq_true,List.mem_range,Option.isNone_iff_eq_none,bne_iff_ne,ne_eq] at h
  obtain ⟨⟨⟨h1,h2⟩,h3⟩,h4⟩:=h
  refine ⟨h1,?_,?_,h4⟩
  ·cases hd:o.dst with
   | none=>rw [hd] at h2;simp at h2
   | some d =>
    rw [hd] at h2
    refine ⟨d,rfl,by simpa using h2,?_⟩
    unfold dstOf
    rw [ho]
    simp [hd]
  ·intro e he
   have:=Array.all_eq_true_iff_forall_mem.1 h3 e he
   simpa using this
 have hne:∀ i j,i < ops.size→j < ops.size→i≠j→dstOf ops i≠dstOf ops j:=by
  intro i j hi hj hij
  rcases Nat.lt_or_gt_of_ne hij with h | h
  ·exact (hB' j _ (Array.getElem?_eq_getElem hj)).2.2.2 i h
  ·exact fun he=>(hB' i _ (Array.getElem?_eq_getElem hi)).2.2.2 j h he.symm
 have hall:∀ (listed:Array Bool),listed.size=ops.size→Region.ready md ops listed=[]→∀ i,i < ops.size→listed.getD i false=true:=by
  intro listed hls hr i
  induction i using Nat.strongRecOn with
  | ind i ih =>
   intro hi
   have ho:=Array.getElem?_eq_getElem hi
   cases hl:listed.getD i false with
   | true=>rfl
   | false =>
    have:i∈Region.ready md ops listed:=by
     rw [mem_ready]
     refine ⟨?_,_,ho,fun e he _=>ih e.on ((hB' i _ ho).2.2.1 e he) (Nat.lt_trans ((hB' i _ ho).2.2.1 e he) hi)⟩
     have h1:i < listed.size:=by omega
     simp [Array.getD,h1] at hl ⊢
     exact hl
    rw [hr] at this
    cases this
 have hfin:∀ (listed:Array Bool) (a:Act) (w':World),AI ops w a0 V listed a w'→Region.ready md ops listed=[]→Q .normal a w':=fun listed a w' inv hr =>
  hq a w' inv.same inv.size inv.defers inv.old (fun i hi=>inv.new i hi (hall listed inv.ls hr i hi))
 intro f
 induction f with
 | zero =>
  intro listed a w' inv hf
  have hr:Region.ready md ops listed=[]:=by
   apply List.eq_nil_iff_forall_not_mem.2
   intro j hj
   obtain ⟨h1,o,ho,_⟩:=mem_ready.1 hj
   have hjn:=(Array.getElem?_eq_some_iff.1 ho).1
   have hm:j∈(List.range ops.size).filter fun i=>!listed.getD i true:=List.mem_filter.2 ⟨List.mem_range.2 hjn,by rw [h1];rfl⟩
   have:0 < ((List.range ops.size).filter fun i=>!listed.getD i true).length:=List.length_pos_of_mem hm
   omega
  exact ⟨hr,hfin listed a w' inv hr⟩
 | succ f ih =>
  intro listed a w' inv hf
  refine ⟨hfin listed a w' inv,fun i hi=>?_⟩
  obtain ⟨h1,o,ho,hall2⟩:=mem_ready.1 hi
  have hin:=(Array.getElem?_eq_some_iff.1 ho).1
  obtain ⟨hg,⟨d,hd,hdm,hdo⟩,hafter,_⟩:=hB' i o ho
  have hstep:=hop i o ho a w' inv.same inv.size inv.defers inv.old (fun e he hb=>inv.new e.on (Nat.lt_trans (hafter e he) hin) (hall2 e he hb))
  unfold wpOp
  simp only [ho]
  rw [if_pos (by simp [Region.wanted,hg])]
  refine .inl (Oper.wp_imp (fun a2 w2 h=>?_) (fun _ _ _ h=>h.elim) hstep)
  obtain ⟨v,rfl,hs2,hv⟩:=h
  rw [hd]
  have hda:d < a.tmps.size:=by rw [inv.size];exact hdm
  refine ih _ _ _ ⟨inv.same.trans hs2 (fun _ _ h=>h),by simp [Act.put,inv.size],by simp [Act.put,inv.defers],?_,?_,by simp [inv.ls]⟩ ?_
  ·intro s hs
   rw [slotA_ne a d s v (by rw [← hdo];exact hs i hin)]
   exact inv.old s hs
  ·intro j hj hl
   by_cases hji:j=i
   ·subst hji
    rw [hdo,slotA_same a d v hda]
    exact hv
   ·rw [slotA_ne a d _ v (by rw [← hdo];exact hne i j hin hj (fun h=>hji h.symm))]
    refine hst j _ _ _ (inv.new j hj ?_) hs2
    simp only [Array.getD_eq_getD_getElem?] at hl ⊢
    rwa [Array.getElem?_setIfInBounds_ne (fun h=>hji h.symm)] at hl
  ·have hsub:((List.range ops.size).filter fun j=>!(listed.setIfInBounds i true).getD j true)=(((List.range ops.size).filter fun j=>!listed.getD j true).filter fun j=>decide (j≠i)):=by
    rw [List.filter_filter]
    apply List.filter_congr
    intro j _
    by_cases hji:j=i
    ·subst hji
     have hil:j < listed.size:=by rw [inv.ls];exact hin
     simp [Array.getD_eq_getD_getElem?,hil]
    ·simp only [Array.getD_eq_getD_getElem?]
     rw [Array.getElem?_setIfInBounds_ne (fun h=>hji h.symm)]
     simp [hji]
   rw [hsub]
   have hm:i∈(List.range ops.size).filter fun j=>!listed.getD j true:=List.mem_filter.2 ⟨List.mem_range.2 hin,by rw [h1];rfl⟩
   have hlt:(((List.range ops.size).filter fun j=>!listed.getD j true).filter fun j=>decide (j≠i)).length < ((List.range ops.size).filter fun j=>!listed.getD j true).length:=List.length_filter_lt_length_iff_exists.2 ⟨i,hm,by simp⟩
   omega
theorem wp_facts {id:Nat} {w:World} {a0:Act} {l:List Oper} {V:Nat→Value→World→Prop} (hm:P.follows .mixedOrders=true) (hB:anyB l.toArray a0.tmps.size=true)
  (hst:∀ i v w1 w2,V i v w1→Same w1 w2→V i v w2)
  (hop:∀ (i:Nat) (o:Oper),l.toArray[i]?=some o→∀ (a:Act) (w':World),Same w w'→a.tmps.size=a0.tmps.size→a.defers=a0.defers→(∀ s,(∀ j,j < l.toArray.size→dstOf l.toArray j≠s)→slotA a s=slotA a0 s) →
   (∀ e∈o.after,Region.binds .any e=true→V e.on (slotA a (dstOf l.toArray e.on)) w')→o.wp P a w' (fun a2 w2=>∃ v,a2=a.put o.dst v∧Same w' w2∧V i v w2) (fun _ _ _=>False))
  (hq:∀ (a:Act) (w':World),Same w w'→a.tmps.size=a0.tmps.size→a.defers=a0.defers→(∀ s,(∀ j,j < l.toArray.size→dstOf l.toArray j≠s)→slotA a s=slotA a0 s)→(∀ i,i < l.toArray.size→V i (slotA a (dstOf l.toArray i)) w')→Q .normal a w') :
  (Code.region id l.toArray true).wp P Q a0 w:=by
 refine wp_region_any hm ?_
 refine wpAny_facts (md:=.any) (V:=V) (w:=w) (a0:=a0) hB hst hop hq _ _ _ _ ⟨(Frm.refl _ _).drew,rfl,rfl,fun _ _=>rfl,fun i hi hl=>?_,by simp⟩ ?_
 ·simp [Array.getD_eq_getD_getElem?] at hl
  rw [Array.getElem?_replicate] at hl
  split at hl <;> simp at hl
 ·refine Nat.le_trans (List.length_filter_le _ _) ?_
  simp
end
end Go.Tk
