/- Contracts and plain laws, put together in one file. No condition. -/
import Derived.Test.YtiomgckodmecbaaGreatJKernelSound7

set_option maxRecDepth 100000
set_option maxHeartbeats 32000000
namespace Go.Proofs.YtiomgckodmecbaaGreat
open Go.RowKit Go.Tk
section
variable {w:World} {kp:Nat} {k:KS} {a:KA} {ext:List Int} {X:List Ent} {n:Nd}
theorem KW.clearTr (h:KW w kp k a):KW (w.setCell ⟨kp,7,none⟩ (.slice none 0 0)) kp { k with tr:=[] } { a with tA:=none,tC:=0 }∧KGo k.n kp w a (w.setCell ⟨kp,7,none⟩ (.slice none 0 0)) { a with tA:=none,tC:=0 }:=by
 refine h.tr_to (r:=[]) (A2:=none) (C2:=0) ((Frm.refl _ w).setCell (p:=⟨kp,7,none⟩) (.inl (.inl rfl)) _) ?_ (Own.nil _ _ _ _) (fun b ⟨_,hx,_⟩=>by cases hx)
 have:=h.blk.set 7 (.slice none 0 0)
 simpa [kcells] using this
theorem Bk.hsv (hb:Bk k ext X) (r:Int):∀ x,k.hs[r.toNat]?=some x→0≤x∧x≤65535:=fun x hx=>⟨(hb.hol _ x hx).1,(hb.hol _ x hx).2.1⟩
theorem kkeep_any (h:KW w kp k a) (hb:Bk k ext []) (r:Int) (h0:0≤r) (h1:r < 4294967296) :
  Calls Tryz.prog 15 #[.pointer (some ⟨kp,0,none⟩),.int .u32 r] w fun e w'=>e=.returned (.int .i64 (keepK k r).1)∧∃ a',KW w' kp (keepK k r).2 a'∧KGo k.n kp w a w' a':=by
 have hkl:=h.blk.lt
 have hlv:=klive_any h r h0 h1
 unfold keepK
 cases ht:tk k.ls r with
 | false =>
  rw [ht] at hlv
  rw [if_pos rfl]
  have HL:=Lib.hid hlv
  have H:=Lib.hid h
  clear hlv h ht hb
  go_enter Tryz.func15,Tryz.ntmps15
  go_wp2_with (fail)
  refine HL.out.mono ?_
  rintro e w1 ⟨rfl,hs1⟩
  go_wp2
  go_ret
  exact ⟨rfl,a,H.out.same hs1,KGo.same hs1⟩
 | true =>
  rw [ht] at hlv
  rw [if_neg (by simp)]
  have HL:=Lib.hid hlv
  by_cases hr:1 < r
  ·rw [if_pos hr]
   obtain ⟨n,hn⟩:∃ n,(n,r)∈k.L:=by
    rcases (hb.tkL h0).1 ht with h | h | ⟨n,h⟩
    ·omega
    ·omega
    ·exact ⟨n,by simpa using h⟩
   have hn':=List.mem_append_left ([]:List Ent) hn
   obtain ⟨u,hu,hud,hu1,_⟩:=hb.use_lt hn'
   obtain ⟨m,rfl,_,mu,_⟩:=hb.mem _ _ hn'
   rw [Int.toNat_natCast] at hu hud
   have hlt:m < k.hs.length:=by rw [← hb.ul];exact mu
   obtain ⟨x,hx⟩:∃ x,k.hs[m]?=some x:=⟨_,List.getElem?_eq_getElem hlt⟩
   obtain ⟨x0,x1,_⟩:=hb.hol m x hx
   have hxd:k.hs.getD (m:Int).toNat 0=x:=by rw [Int.toNat_natCast,List.getD_eq_getElem?_getD,hx];rfl
   rw [hxd]
   have hgt:(m:Int) > 1:=hr
   have hmI:(m:Int) < (k.hs.length:Int):=by omega
   have hmU:(m:Int) < (k.us.length:Int):=by omega
   have HX:=Lib.hid hx
   have HU:=Lib.hid hu
   have HUD:=Lib.hid hud
   have HXD:=Lib.hid hxd
   have H:=Lib.hid h
   have HB:=Lib.hid hb
   clear hlv h ht hb hn hn' hu hud hx hxd hr
   by_cases hx5:x=65535
   ·rw [if_pos hx5]
    subst hx5
    go_enter Tryz.func15,Tryz.ntmps15
    go_wp2_with (fail)
    refine HL.out.mono ?_
    rintro e w1 ⟨rfl,hs1⟩
    have hk1:=H.out.same hs1
    obtain ⟨sb,hA,hsb,hne,hc,hf⟩:=hk1.atHs HX.out
    have c3:=hk1.c3
    rw [hA] at c3
    have hkl1:=hk1.blk.lt
    have HS1:=Lib.hid hs1
    clear hs1 hk1 hA
    go_wp2
    go_ret
    exact ⟨rfl,a,H.out.same HS1.out,KGo.same HS1.out⟩
   ·rw [if_neg hx5]
    have hx5B:(x == 65535)=false:=by simpa using hx5
    go_enter Tryz.func15,Tryz.ntmps15
    go_wp2_with (fail)
    refine HL.out.mono ?_
    rintro e w1 ⟨rfl,hs1⟩
    have hk1:=H.out.same hs1
    obtain ⟨sb,hA,hsb,hne,hc,hf⟩:=hk1.atHs HX.out
    have c3:=hk1.c3
    rw [hA] at c3
    have hkl1:=hk1.blk.lt
    have hset:=hk1.setHs hA (i:=m) (by omega) (x+1)
    have hx2:x < 65535:=by omega
    have HS1:=Lib.hid hs1
    have HSET:=Lib.hid hset
    have HA:=Lib.hid hA
    clear hs1 hk1 hset hA hx5
    go_upto_region 9 with fail
    refine wp_world fun w2 hw2=>?_
    rw [← hw2] at HSET
    have hk2:=HSET.out.1
    have c3:w2.cell? ⟨kp,3,none⟩=some (.slice (some ⟨sb,0,none⟩) k.hs.length a.hC):=by
     have:=hk2.c3
     rw [HA.out] at this
     simpa using this
    have hc:w2.cell? ⟨sb,m,none⟩=some (.int .i32 (x+1)):=by
     obtain ⟨sb2,q1,_,_,q4,_⟩:=hk2.atHs (i:=m) (x:=x+1) (by show (k.hs.set m (x+1))[m]?=_;rw [List.getElem?_set,if_pos rfl,if_pos (by omega)])
     rw [HA.out] at q1
     injection q1 with q1
     injection q1 with q1
     subst q1
     exact q4
    have hkl2:=hk2.blk.lt
    have hsb2:sb < w2.heap.size:=by
     have:=hk2.hs.block
     rw [HA.out] at this
     exact this _ rfl
    by_cases hx0:x=0
    ·subst hx0
     obtain ⟨ub,hUA,hub,hune,huc,huf⟩:=hk2.atUs HU.out
     have c2:=hk2.c2
     rw [hUA] at c2
     have hset2:=hk2.setUs hUA (i:=m) (by show m < k.us.length;omega) ((u:Int)+1)
     have HSET2:=Lib.hid hset2
     clear hw2 hk2 hset2 hf
     go_upto_region 11 with fail
     refine wp_world fun w3 hw3=>?_
     rw [← hw3] at HSET2
     have hcl:=HSET2.out.1.clearTr
     have hkb:=HSET2.out.1.blk
     have f7:=hkb.free 7
     have c7:=HSET2.out.1.c7
     have hkl3:=hkb.lt
     have HCL:=Lib.hid hcl
     clear hw3 hcl hkb hkl2 c2 c3 hc huc huf
     go_wp2
     go_ret
     have he:({ holdK k (m:Int) with tr:=[] }:KS)={ k with hs:=k.hs.set m 1,us:=k.us.set m ((u:Int)+1),tr:=[] }:=by
      unfold holdK
      rw [HXD.out,if_pos rfl]
      unfold useK
      rw [if_pos (by omega),Int.toNat_natCast,HUD.out]
      rfl
     rw [he]
     refine ⟨rfl,_,HCL.out.1,?_⟩
     exact (KGo.same HS1.out).trans (HSET.out.2.trans (HSET2.out.2.trans HCL.out.2))
    ·have hx0B:(x+1 == 1)=false:=by simp <;> omega
     have hcl:=hk2.clearTr
     have f7:=hk2.blk.free 7
     have c7:=hk2.c7
     have HCL:=Lib.hid hcl
     have HX0:=Lib.hid hx0
     clear hw2 hk2 hcl hx0 hf
     go_wp2
     go_ret
     have he:({ holdK k (m:Int) with tr:=[] }:KS)={ k with hs:=k.hs.set m (x+1),tr:=[] }:=by
      unfold holdK
      rw [HXD.out,if_neg HX0.out]
      rfl
     rw [he]
     refine ⟨rfl,_,HCL.out.1,?_⟩
     exact (KGo.same HS1.out).trans (HSET.out.2.trans HCL.out.2)
  ·rw [if_neg hr]
   have hgt:¬ r > 1:=hr
   have H:=Lib.hid h
   clear hlv h ht hb hr
   go_enter Tryz.func15,Tryz.ntmps15
   go_wp2_with (fail)
   refine HL.out.mono ?_
   rintro e w1 ⟨rfl,hs1⟩
   have hk1:=H.out.same hs1
   have hcl:=hk1.clearTr
   have f7:=hk1.blk.free 7
   have c7:=hk1.c7
   have hkl1:=hk1.blk.lt
   have HCL:=Lib.hid hcl
   have HS1:=Lib.hid hs1
   clear hk1 hcl hs1
   go_wp2
   go_ret
   exact ⟨rfl,_,HCL.out.1,(KGo.same HS1.out).trans HCL.out.2⟩
theorem kdrop_any (h:KW w kp k a) (hb:Bk k [] []) (r:Int) (h0:0≤r) (h1:r < 4294967296) :
  Calls Tryz.prog 19 #[.pointer (some ⟨kp,0,none⟩),.int .u32 r] w fun e w'=>e=.returned (.int .i64 (dropK k r).1)∧∃ a',KW w' kp (dropK k r).2 a'∧KGo k.n kp w a w' a':=by
 have hkl:=h.blk.lt
 have hh:=kheld_any h r h0 h1 (hb.hsv r)
 unfold dropK
 by_cases hr:1 < r
 ·rw [if_pos hr]
  obtain ⟨x,hx⟩:∃ x,k.hs.getD r.toNat 0=x:=⟨_,rfl⟩
  rw [hx] at hh
  rw [hx]
  have HH:=Lib.hid hh
  have hgt:r > 1:=hr
  by_cases hx0:x=0
  ·rw [if_pos hx0]
   subst hx0
   have H:=Lib.hid h
   clear hh h hx hb hr
   go_enter Tryz.func19,Tryz.ntmps19
   go_wp2_with (fail)
   refine HH.out.mono ?_
   rintro e w1 ⟨rfl,rfl⟩
   go_wp2
   go_ret
   exact ⟨rfl,a,H.out,KGo.refl _ _ _ _⟩
  ·rw [if_neg hx0]
   have hx0B:(x == 0)=false:=by simpa using hx0
   obtain ⟨n,hn⟩:=held_mem hb h0 (by rw [hx];exact hx0)
   obtain ⟨m,rfl,_,mu,_⟩:=hb.mem _ _ hn
   rw [Int.toNat_natCast] at hx
   have hlt:m < k.hs.length:=by rw [← hb.ul];exact mu
   have hxg:k.hs[m]?=some x:=by
    rw [List.getD_eq_getElem?_getD,List.getElem?_eq_getElem hlt] at hx
    rw [List.getElem?_eq_getElem hlt,← hx]
    rfl
   obtain ⟨x0,x1,_⟩:=hb.hol m x hxg
   have hmI:(m:Int) < (k.hs.length:Int):=by omega
   have hx1:1≤x:=by omega
   obtain ⟨sb,hA,hsb,hne,hc,hf⟩:=h.atHs hxg
   have c3:=h.c3
   rw [hA] at c3
   have hset:=h.setHs hA (i:=m) (by omega) (x - 1)
   have hubk:x=1→Bk { k with hs:=k.hs.set m 0 } [(m:Int)] []:=fun he=>by
    have:=bk_unhold hb hn (by rw [Int.toNat_natCast,hx];omega) (by have:=hb.bd;have:=hb.cnt;have:=hb.cM;have:=hb.lim;have:=hb.cntl;simp only [List.length_append,List.length_nil] at *;omega)
    rwa [Int.toNat_natCast] at this
   have HUB:=Lib.hid hubk
   have HSET:=Lib.hid hset
   have HXX:=Lib.hid hx
   have HA:=Lib.hid hA
   have hhs:∀ v:Int,(k.hs.set m v)[m]?=some v:=fun v=>by rw [List.getElem?_set,if_pos rfl,if_pos hlt]
   have HHS:=Lib.hid hhs
   clear hh h hx hb hn hset hubk hxg hA hx0 hhs hr
   go_enter Tryz.func19,Tryz.ntmps19
   go_wp2_with (fail)
   refine HH.out.mono ?_
   rintro e w1 ⟨rfl,rfl⟩
   go_upto_region 7 with fail
   refine wp_world fun w2 hw2=>?_
   rw [← hw2] at HSET
   have hk2:=HSET.out.1
   have c3':w2.cell? ⟨kp,3,none⟩=some (.slice (some ⟨sb,0,none⟩) k.hs.length a.hC):=by
    have:=hk2.c3
    rw [HA.out] at this
    simpa using this
   have hc':w2.cell? ⟨sb,m,none⟩=some (.int .i32 (x - 1)):=by
    obtain ⟨sb2,q1,_,_,q4,_⟩:=hk2.atHs (i:=m) (x:=x - 1) (HHS.out _)
    rw [HA.out] at q1
    injection q1 with q1
    injection q1 with q1
    subst q1
    exact q4
   have hkl2:=hk2.blk.lt
   have hsb2:sb < w2.heap.size:=by
    have:=hk2.hs.block
    rw [HA.out] at this
    exact this _ rfl
   clear c3 hc hf hkl hsb
   by_cases hx1:x=1
   ·subst hx1
    have hr:=fun w' (hw:KW w' kp { k with hs:=k.hs.set m 0 } a)=>krelease_any hw (HUB.out rfl)
    have HR:=Lib.hid hr
    clear hw2 hk2 hr
    go_wp2_with (fail)
    refine (HR.out _ HSET.out.1).mono ?_
    rintro e w3 ⟨rfl,a3,hk3,hg3⟩
    have hcl:=hk3.clearTr
    have f7:=hk3.blk.free 7
    have c7:=hk3.c7
    have hkl3:=hk3.blk.lt
    have HCL:=Lib.hid hcl
    have HG3:=Lib.hid hg3
    have HN3:Hid ((relK { k with hs:=k.hs.set m 0 } (m:Int)).n=k.n):=Lib.hid (relF_n _ _ _)
    clear hk3 hcl hg3 c3' hc'
    go_wp2
    go_ret
    have he:unholdK k (m:Int)=relK { k with hs:=k.hs.set m 0 } (m:Int):=by
     unfold unholdK
     rw [Int.toNat_natCast,HXX.out,if_pos rfl]
    rw [he]
    refine ⟨rfl,_,HCL.out.1,?_⟩
    have h2:=HCL.out.2
    rw [HN3.out] at h2
    exact HSET.out.2.trans (HG3.out.trans h2)
   ·have hx1B:(x - 1 == 0)=false:=by simp <;> omega
    have hcl:=hk2.clearTr
    have f7:=hk2.blk.free 7
    have c7:=hk2.c7
    have HCL:=Lib.hid hcl
    have HX1:=Lib.hid hx1
    clear hw2 hk2 hcl hx1
    go_wp2
    go_ret
    have he:unholdK k (m:Int)={ k with hs:=k.hs.set m (x - 1) }:=by
     unfold unholdK
     rw [Int.toNat_natCast,HXX.out,if_neg HX1.out]
    rw [he]
    exact ⟨rfl,_,HCL.out.1,HSET.out.2.trans HCL.out.2⟩
 ·rw [if_neg hr]
  have hgt:¬ r > 1:=hr
  have hcl:=h.clearTr
  have f7:=h.blk.free 7
  have c7:=h.c7
  have HCL:=Lib.hid hcl
  clear hh h hb hr hcl
  go_enter Tryz.func19,Tryz.ntmps19
  go_wp2
  go_ret
  exact ⟨rfl,_,HCL.out.1,HCL.out.2⟩
end
def keptK (k:KS) (r:Int):Int × Int × KS:=if (keepK k r).1=0 then (r,0,(keepK k r).2) else (0,(keepK k r).1,(keepK k r).2)
def makeL (k:KS) (n:Nd):Option Int→Int × Int × KS
 | some r=>keptK k r
 | none=>if k.ac+1≤k.c then keptK (takeK k n) (takeR k) else (0,9,k)
def makeK (k:KS) (n:Nd):Int × Int × KS:=if fitsK k n=0 then makeL k n (seekK k n) else (0,fitsK k n,k)
section
variable {w:World} {kp:Nat} {k:KS} {a:KA} {ext:List Int} {X:List Ent} {n:Nd}
theorem fits_ok (h:fitsK k n=0):0≤n.v∧n.v < k.n∧tk k.ls n.lo=true∧tk k.ls n.hi=true:=by
 unfold fitsK at h
 split at h
 ·cases h
 ·rename_i h1
  split at h
  ·cases h
  ·rename_i h2
   have h1':0≤n.v∧n.v < k.n:=Classical.byContradiction h1
   refine ⟨h1'.1,h1'.2,?_,?_⟩
   ·cases ht:tk k.ls n.lo with
    | true=>rfl
    | false=>exact absurd (.inl ht) h2
   ·cases ht:tk k.ls n.hi with
    | true=>rfl
    | false=>exact absurd (.inr ht) h2
theorem fits_nd (h:fitsK k n=0) (l0:0≤n.lo) (h0:0≤n.hi):NdOk k n:=by
 obtain ⟨a,b,c,d⟩:=fits_ok h
 exact ⟨a,b,l0,c,h0,d⟩
theorem seek_live (hb:Bk k ext []) (hn:NdOk k n) {r:Int} (hs:seekK k n=some r):0≤r∧r < 1048576∧tk k.ls r=true:=by
 unfold seekK at hs
 split at hs
 ·injection hs with hs
  subst hs
  exact ⟨hn.l0,hb.lt hn.l0 hn.l1,hn.l1⟩
 ·have hm:=hb.memL (List.mem_append_left [] (look_mem hs))
  exact ⟨by omega,hb.lt (by omega) hm.2.2,hm.2.2⟩
theorem seek_none (hs:seekK k n=none):n.lo≠n.hi∧n ∉ keys k.L:=by
 unfold seekK at hs
 split at hs
 ·cases hs
 ·rename_i h
  exact ⟨h,look_none.1 hs⟩
theorem bk_taken (hb:Bk k [] []) (hn:NdOk k n) (hs:seekK k n=none) (hc:k.ac+1≤k.c):Bk (takeK k n) [] []:=by
 obtain ⟨h1,h2⟩:=seek_none hs
 refine bk_take hb (by omega) ⟨hn.v0,hn.v1⟩ hn.l0 hn.l1 hn.h0 hn.h1 h1 h2 ?_
 have:=hb.cnt
 have:=hb.cM
 have:=hb.lim
 have:=hb.cntl
 simp only [List.length_append,List.length_nil] at *
 omega
theorem takeR_lt (hb:Bk k ext X):(takeR k:Int) < 4294967296:=by
 have:=(bk_takeR hb).2.2.1
 have:=hb.lim
 have:=hb.cM
 omega
theorem kmake_any (h:KW w kp k a) (hb:Bk k [] []) (hl:Lv k) (n:Nd) (l0:0≤n.lo) (l1:n.lo < 4294967296) (h0:0≤n.hi) (h1:n.hi < 4294967296) :
  Calls Tryz.prog 14 #[.pointer (some ⟨kp,0,none⟩),.int .i64 n.v,.int .u32 n.lo,.int .u32 n.hi] w fun e w'=>e=.returned (.tuple #[.int .u32 (makeK k n).1,.int .i64 (makeK k n).2.1])∧∃ a',KW w' kp (makeK k n).2.2 a'∧KGo k.n kp w a w' a':=by
 have hkl:=h.blk.lt
 have hf:=kfits_any h hb hl n l0 l1 h0 h1
 unfold makeK
 by_cases hz:fitsK k n=0
 ·rw [if_pos hz]
  rw [hz] at hf
  have hnd:=fits_nd hz l0 h0
  have hok:=hnd.ok hb
  have hsk:=fun w' (hw:Same w w')=>kseek_any (h.same hw) n hok
  cases hl':seekK k n with
  | some r =>
   obtain ⟨r0,r1,_⟩:=seek_live hb hnd hl'
   rw [hl'] at hsk
   have hkp:=fun w' (hw:Same w w')=>kkeep_any (h.same hw) hb r r0 (by omega)
   show Calls _ _ _ _ fun e w'=>e=.returned (.tuple #[.int .u32 (keptK k r).1,.int .i64 (keptK k r).2.1])∧∃ a',KW w' kp (keptK k r).2.2 a'∧KGo k.n kp w a w' a'
   unfold keptK
   obtain ⟨ke,hke⟩:∃ ke,keepK k r=ke:=⟨_,rfl⟩
   rw [hke] at hkp
   rw [hke]
   have HF:=Lib.hid hf
   have HS:=Lib.hid hsk
   have HK:=Lib.hid hkp
   clear hf hsk hkp hke hl' hz h hb hl hnd hok
   by_cases h0':ke.1=0
   ·rw [if_pos h0']
    have H0:=Lib.hid h0'
    have heB:(ke.1 != 0)=false:=by simpa using h0'
    clear h0'
    go_enter Tryz.func14,Tryz.ntmps14
    go_wp2_with (fail)
    refine HF.out.mono ?_
    rintro e w1 ⟨rfl,hs1⟩
    have HS1:=Lib.hid hs1
    clear hs1
    go_wp2_with (fail)
    refine (HS.out _ HS1.out).mono ?_
    rintro e w2 ⟨rfl,hs2⟩
    have HS2:=Lib.hid (HS1.out.trans hs2 (fun _ _ h=>h))
    clear hs2
    simp only [Option.isSome_some,Option.getD_some]
    go_wp2_with (fail)
    refine (HK.out _ HS2.out).mono ?_
    rintro e w3 ⟨rfl,a3,hk3,hg3⟩
    have HK3:=Lib.hid hk3
    have HG3:=Lib.hid hg3
    clear hk3 hg3
    go_wp2
    go_ret2
    exact ⟨rfl,a3,HK3.out,(KGo.same HS2.out).trans HG3.out⟩
   ·rw [if_neg h0']
    have heB:(ke.1 != 0)=true:=by simpa using h0'
    clear h0'
    go_enter Tryz.func14,Tryz.ntmps14
    go_wp2_with (fail)
    refine HF.out.mono ?_
    rintro e w1 ⟨rfl,hs1⟩
    have HS1:=Lib.hid hs1
    clear hs1
    go_wp2_with (fail)
    refine (HS.out _ HS1.out).mono ?_
    rintro e w2 ⟨rfl,hs2⟩
    have HS2:=Lib.hid (HS1.out.trans hs2 (fun _ _ h=>h))
    clear hs2
    simp only [Option.isSome_some,Option.getD_some]
    go_wp2_with (fail)
    refine (HK.out _ HS2.out).mono ?_
    rintro e w3 ⟨rfl,a3,hk3,hg3⟩
    have HK3:=Lib.hid hk3
    have HG3:=Lib.hid hg3
    clear hk3 hg3
    go_wp2
    go_ret2
    exact ⟨rfl,a3,HK3.out,(KGo.same HS2.out).trans HG3.out⟩
  | none =>
   rw [hl'] at hsk
   have hrm:=fun w' (hw:Same w w')=>kroom_any (h.same hw) 1 (by omega)
   obtain ⟨hne,hnew⟩:=seek_none hl'
   show Calls _ _ _ _ fun e w'=>e=.returned (.tuple #[.int .u32 (if k.ac+1≤k.c then keptK (takeK k n) (takeR k) else (0,9,k)).1,.int .i64 (if k.ac+1≤k.c then keptK (takeK k n) (takeR k) else (0,9,k)).2.1])∧∃ a',KW w' kp (if k.ac+1≤k.c then keptK (takeK k n) (takeR k) else (0,9,k)).2.2 a'∧KGo k.n kp w a w' a'
   by_cases hc:k.ac+1≤k.c
   ·rw [if_pos hc]
    have hrB:decide (k.ac+1≤k.c)=true:=by simpa using hc
    rw [hrB] at hrm
    have htk:=fun w' (hw:Same w w')=>ktake_any (h.same hw) hb hnd (by omega) hne hnew
    have hbt:=bk_taken hb hnd hl' hc
    have hkp:=fun w' a' (hw:KW w' kp (takeK k n) a')=>kkeep_any hw hbt (takeR k) (by omega) (takeR_lt hb)
    have htn:=takeK_n k n
    unfold keptK
    obtain ⟨tr,htr⟩:∃ tr,takeR k=tr:=⟨_,rfl⟩
    rw [htr] at htk hkp
    rw [htr]
    obtain ⟨k2,hk2⟩:∃ k2,takeK k n=k2:=⟨_,rfl⟩
    rw [hk2] at htk hkp htn
    rw [hk2]
    obtain ⟨ke,hke⟩:∃ ke,keepK k2 tr=ke:=⟨_,rfl⟩
    rw [hke] at hkp
    rw [hke]
    have HF:=Lib.hid hf
    have HS:=Lib.hid hsk
    have HK:=Lib.hid hkp
    have HT:=Lib.hid htk
    have HR:=Lib.hid hrm
    have HTN:=Lib.hid htn
    clear hf hsk hkp hke hl' hz h hb hl hnd hok hrB hrm htk hbt htn htr hk2 hne hnew hc
    by_cases h0':ke.1=0
    ·rw [if_pos h0']
     have heB:(ke.1 != 0)=false:=by simpa using h0'
     clear h0'
     go_enter Tryz.func14,Tryz.ntmps14
     go_wp2_with (fail)
     refine HF.out.mono ?_
     rintro e w1 ⟨rfl,hs1⟩
     have HS1:=Lib.hid hs1
     clear hs1
     go_wp2_with (fail)
     refine (HS.out _ HS1.out).mono ?_
     rintro e w2 ⟨rfl,hs2⟩
     have HS2:=Lib.hid (HS1.out.trans hs2 (fun _ _ h=>h))
     clear hs2
     simp only [Option.isSome_none,Option.getD_none]
     go_wp2_with (fail)
     refine (HR.out _ HS2.out).mono ?_
     rintro e w3 ⟨rfl,hs3⟩
     have HS3:=Lib.hid (HS2.out.trans hs3 (fun _ _ h=>h))
     clear hs3
     go_wp2_with (fail)
     refine (HT.out _ HS3.out).mono ?_
     rintro e w4 ⟨rfl,a4,hk4,hg4⟩
     have HK4:=Lib.hid hk4
     have HG4:=Lib.hid hg4
     clear hk4 hg4
     go_wp2_with (fail)
     refine (HK.out _ _ HK4.out).mono ?_
     rintro e w5 ⟨rfl,a5,hk5,hg5⟩
     rw [HTN.out] at hg5
     have HK5:=Lib.hid hk5
     have HG5:=Lib.hid hg5
     clear hk5 hg5
     go_wp2
     go_ret2
     exact ⟨rfl,a5,HK5.out,((KGo.same HS3.out).trans HG4.out).trans HG5.out⟩
    ·rw [if_neg h0']
     have heB:(ke.1 != 0)=true:=by simpa using h0'
     clear h0'
     go_enter Tryz.func14,Tryz.ntmps14
     go_wp2_with (fail)
     refine HF.out.mono ?_
     rintro e w1 ⟨rfl,hs1⟩
     have HS1:=Lib.hid hs1
     clear hs1
     go_wp2_with (fail)
     refine (HS.out _ HS1.out).mono ?_
     rintro e w2 ⟨rfl,hs2⟩
     have HS2:=Lib.hid (HS1.out.trans hs2 (fun _ _ h=>h))
     clear hs2
     simp only [Option.isSome_none,Option.getD_none]
     go_wp2_with (fail)
     refine (HR.out _ HS2.out).mono ?_
     rintro e w3 ⟨rfl,hs3⟩
     have HS3:=Lib.hid (HS2.out.trans hs3 (fun _ _ h=>h))
     clear hs3
     go_wp2_with (fail)
     refine (HT.out _ HS3.out).mono ?_
     rintro e w4 ⟨rfl,a4,hk4,hg4⟩
     have HK4:=Lib.hid hk4
     have HG4:=Lib.hid hg4
     clear hk4 hg4
     go_wp2_with (fail)
     refine (HK.out _ _ HK4.out).mono ?_
     rintro e w5 ⟨rfl,a5,hk5,hg5⟩
     rw [HTN.out] at hg5
     have HK5:=Lib.hid hk5
     have HG5:=Lib.hid hg5
     clear hk5 hg5
     go_wp2
     go_ret2
     exact ⟨rfl,a5,HK5.out,((KGo.same HS3.out).trans HG4.out).trans HG5.out⟩
   ·rw [if_neg hc]
    have hrB:decide (k.ac+1≤k.c)=false:=by simpa using hc
    rw [hrB] at hrm
    have HF:=Lib.hid hf
    have HS:=Lib.hid hsk
    have HR:=Lib.hid hrm
    have H:=Lib.hid h
    clear hf hsk hl' hz h hb hl hnd hok hrB hrm hne hnew hc
    go_enter Tryz.func14,Tryz.ntmps14
    go_wp2_with (fail)
    refine HF.out.mono ?_
    rintro e w1 ⟨rfl,hs1⟩
    have HS1:=Lib.hid hs1
    clear hs1
    go_wp2_with (fail)
    refine (HS.out _ HS1.out).mono ?_
    rintro e w2 ⟨rfl,hs2⟩
    have HS2:=Lib.hid (HS1.out.trans hs2 (fun _ _ h=>h))
    clear hs2
    simp only [Option.isSome_none,Option.getD_none]
    go_wp2_with (fail)
    refine (HR.out _ HS2.out).mono ?_
    rintro e w3 ⟨rfl,hs3⟩
    have HS3:=Lib.hid (HS2.out.trans hs3 (fun _ _ h=>h))
    clear hs3
    go_wp2
    go_ret2
    exact ⟨rfl,a,H.out.same HS3.out,KGo.same HS3.out⟩
 ·rw [if_neg hz]
  generalize fitsK k n=fz at *
  have heB:(fz != 0)=true:=by simpa using hz
  have HF:=Lib.hid hf
  have H:=Lib.hid h
  clear hf hz h hb hl
  go_enter Tryz.func14,Tryz.ntmps14
  go_wp2_with (fail)
  refine HF.out.mono ?_
  rintro e w1 ⟨rfl,hs1⟩
  go_wp2
  go_ret2
  exact ⟨rfl,a,H.out.same hs1,KGo.same hs1⟩
end
def exchK (k:KS) (l:Int):Int × KS:=if l < 0∨(k.n:Int) - 2 < l then (1,k) else if (turnK k l.toNat).1 then (0,{ (turnK k l.toNat).2 with tr:=(turnK k l.toNat).2.tr ++ [l] }) else (9,(turnK k l.toNat).2)
def undoK (k:KS):Int × Int × KS:=match k.tr.getLast? with
 | none=>(0,10,k)
 | some l=>(l,0,{ (turnK k l.toNat).2 with tr:=(turnK k l.toNat).2.tr.dropLast })
theorem turnK_n (k:KS) (l:Nat):(turnK k l).2.n=k.n:=by
 unfold turnK
 split
 ·show (turn3 (turn2 (turn1 k _) _ _ _) _).n=k.n
  rw [turn3_n,turn2_n,turn1_n]
 ·rfl
theorem turnK_tr (k:KS) (l:Nat):(turnK k l).2.tr=k.tr:=by
 unfold turnK
 split
 ·show (turn3 (turn2 (turn1 k _) _ _ _) _).tr=k.tr
  have:=congrArg (fun t=>t.2.2.2.2) ((turn3_kst (turn2 (turn1 k (crsT k (k.ord.getD l 0) (k.ord.getD (l+1) 0))) (k.ord.getD l 0) (k.ord.getD (l+1) 0) (crsT k (k.ord.getD l 0) (k.ord.getD (l+1) 0))) (crsT k (k.ord.getD l 0) (k.ord.getD (l+1) 0))).trans ((turn2_kst _ _ _ _).trans (turn1_kst _ _)))
  exact this
 ·rfl
section
variable {w:World} {kp:Nat} {k:KS} {a:KA} {ext:List Int} {X:List Ent} {n:Nd}
theorem info_int':(Tryz.prog.info? 3).map (fun i=>(i.zero,i.size,i.bytes))=some (some (.int .i64 0),1,8):=by kernel_rfl
theorem kexch_any (h:KW w kp k a) (hn:k.n≤64) (l:Int) (hT:0≤l→l≤(k.n:Int) - 2→∃ x y,TurnOk k l.toNat x y) (htr:(k.tr.length+1) * 8≤140737488355328) :
  Calls Tryz.prog 24 #[.pointer (some ⟨kp,0,none⟩),.int .i64 l] w fun e w'=>e=.returned (.int .i64 (exchK k l).1)∧∃ a',KW w' kp (exchK k l).2 a'∧KGo k.n kp w a w' a':=by
 have hkl:=h.blk.lt
 have c4:=h.c4
 unfold exchK
 by_cases hl0:l < 0
 ·rw [if_pos (.inl hl0)]
  have H:=Lib.hid h
  clear h hT
  go_enter Tryz.func24,Tryz.ntmps24
  go_wp2
  go_ret
  exact ⟨rfl,a,H.out,KGo.refl _ _ _ _⟩
 ·by_cases hl1:(k.n:Int) - 2 < l
  ·rw [if_pos (.inr hl1)]
   have H:=Lib.hid h
   have hl1':l > (k.n:Int) - 2:=hl1
   clear h hT
   go_enter Tryz.func24,Tryz.ntmps24
   go_wp2
   go_ret
   exact ⟨rfl,a,H.out,KGo.refl _ _ _ _⟩
  ·rw [if_neg (by omega)]
   obtain ⟨m,rfl⟩:=Int.eq_ofNat_of_zero_le (show 0≤l by omega)
   obtain ⟨x,y,ht⟩:=hT (by omega) (by omega)
   rw [Int.toNat_natCast] at ht ⊢
   have hc:=kturn_any h m x y (by omega) ht
   have hl1':¬ (m:Int) > (k.n:Int) - 2:=by omega
   have hgn:=turnK_n k m
   have hgt:=turnK_tr k m
   generalize turnK k m=t at *
   obtain ⟨tb,tk⟩:=t
   simp only at hc hgn hgt ⊢
   have HC:=Lib.hid hc
   have HGN:=Lib.hid hgn
   have HGT:=Lib.hid hgt
   clear h hT ht hc hgn hgt
   cases tb with
   | false =>
    rw [if_neg (by simp)]
    go_enter Tryz.func24,Tryz.ntmps24
    go_wp2_with (fail)
    refine HC.out.mono ?_
    rintro e w1 ⟨rfl,a1,hk1,hg1⟩
    have HK1:=Lib.hid hk1
    have HG1:=Lib.hid hg1
    clear hk1 hg1
    go_wp2
    go_ret
    exact ⟨rfl,a1,HK1.out,HG1.out⟩
   | true =>
    rw [if_pos rfl]
    go_enter Tryz.func24,Tryz.ntmps24
    go_wp2_with (fail)
    refine HC.out.mono ?_
    rintro e w1 ⟨rfl,a1,hk1,hg1⟩
    have HK1:=Lib.hid hk1
    have HG1:=Lib.hid hg1
    have c7:=hk1.c7
    have hkl1:=hk1.blk.lt
    have htl:(tk.tr.length+1) * 8≤140737488355328:=by rw [HGT.out];exact htr
    clear hk1 hg1 c4 hkl
    go_upto_region 7 with fail
    refine wp_read 6 ?_
    simp only [List.take_succ_cons,List.take_zero,List.drop_succ_cons,List.drop_zero]
    repeat (any_goals (first | go_big_quiet_step (fail) | quiet_step (fail)))
    refine wpQuiet_nil ?_
    refine wpList_plain rfl fun K hK=>?_
    go_simp
    refine hK _ _ ?_
    clear hK K
    refine list_world fun wa hwa=>?_
    have hM:=Blk.new w1 3 #[.int .i64 (m:Int)]
    have hsa:Same w1 wa:=by rw [hwa];exact (Frm.refl _ _).alloc _
    rw [← hwa] at hM
    clear hwa
    have hka:=HK1.out.same hsa
    refine Own.append_list (f:=icell) rfl (.tmp 29) (.tmp 31) _ rfl Tryz.underlying46 info_int' rfl (by omega) rfl hka.tr (fun _=>rfl) (m:Int) w1.heap.size 1 rfl hM (by simp [Value.oneCell',icell]) (by unfold maxLen;omega) (by omega) ?_
    intro gg cap wb hOb hgb hat
    have hgr:=HK1.out.tr_grown (wa:=wa) (wb:=wb) (x:=(m:Int)) (g:=gg) (cap:=cap) hsa hOb hgb hat
    have hkb:Blk wb kp 100 _:=hka.blk.grown hgb (fun hx=>hka.dj 0 11 kp (by omega) rfl (ownBlock_row.1 hx.symm))
    have b2:=hkb.free 7
    have b2':=hkb.cell 7
    have hkbl:=hkb.lt
    simp [kcells] at b2'
    have HGR:=Lib.hid hgr
    clear hgr hOb hgb hat hkb hka hsa hM c7
    go_wp2
    go_ret
    refine ⟨rfl,_,HGR.out.1,?_⟩
    have h2:=HGR.out.2
    rw [HGN.out] at h2
    exact HG1.out.trans h2
theorem kundo_any (h:KW w kp k a) (hT:∀ l,k.tr.getLast?=some l→0≤l∧l < 4000000∧∃ x y,TurnOk k l.toNat x y) (htr:k.tr.length≤1000000000000000000) :
  Calls Tryz.prog 26 #[.pointer (some ⟨kp,0,none⟩)] w fun e w'=>e=.returned (.tuple #[.int .i64 (undoK k).1,.int .i64 (undoK k).2.1])∧∃ a',KW w' kp (undoK k).2.2 a'∧KGo k.n kp w a w' a':=by
 have hkl:=h.blk.lt
 have c7:=h.c7
 unfold undoK
 rcases List.eq_nil_or_concat k.tr with htn | ⟨t,l,htl⟩
 ·rw [htn] at c7 ⊢
  simp only [List.getLast?_nil,List.length_nil] at c7 ⊢
  have H:=Lib.hid h
  clear h hT htn htr
  go_enter Tryz.func26,Tryz.ntmps26
  go_wp2
  go_ret2
  exact ⟨rfl,a,H.out,KGo.refl _ _ _ _⟩
 ·rw [List.concat_eq_append] at htl
  have hlast:k.tr.getLast?=some l:=by rw [htl];simp
  obtain ⟨hl0,hl4,x,y,ht⟩:=hT l hlast
  rw [hlast]
  simp only
  have hN:k.tr.length=t.length+1:=by rw [htl];simp
  rw [hN] at c7 htr
  obtain ⟨m,rfl⟩:=Int.eq_ofNat_of_zero_le hl0
  rw [Int.toNat_natCast] at ht ⊢
  obtain ⟨tb,etb,htb,htc⟩:=h.tr.at1 (i:=t.length) (x:=(m:Int)) (by rw [htl];simp)
  rw [etb] at c7
  replace htc:w.cell? ⟨tb,t.length,none⟩=some (.int .i64 m):=htc
  have hc:=kturn_any h m x y (by omega) ht
  have hgn:=turnK_n k m
  have hgt:=turnK_tr k m
  generalize turnK k m=tt at *
  obtain ⟨tt,tk⟩:=tt
  simp only at hc hgn hgt ⊢
  have HC:=Lib.hid hc
  have HGN:=Lib.hid hgn
  have HGT:Hid (tk.tr=t ++ [(m:Int)]):=Lib.hid (by rw [hgt,htl])
  have hI:(((t.length:Int)+1) == 0)=false:=by simp <;> omega
  clear h hT ht hc hgn hgt htl hlast hN etb
  go_enter Tryz.func26,Tryz.ntmps26
  go_wp2_with (fail)
  refine HC.out.mono ?_
  rintro e w1 ⟨rfl,a1,hk1,hg1⟩
  have hlen1:tk.tr.length=t.length+1:=by rw [HGT.out];simp
  have d7:=hk1.c7
  rw [hlen1] at d7
  have f7:=hk1.blk.free 7
  have hkl1:=hk1.blk.lt
  have hrow:=hk1.tr
  rw [HGT.out] at hrow
  have hpop:=Go.Tk.Own.pop (f:=icell) (fun _=>rfl) hrow
  obtain ⟨sb,esb,hsb⟩:=hk1.tr.form1 (by omega)
  rw [esb] at d7
  have hcap:t.length+1≤a1.tC∧a1.tC≤9223372036854775807:=by
   rcases hk1.tr.own.2 with ⟨h0,_⟩ | ⟨_,cap,_,h1,_,_,h3,h4,_⟩
   ·rw [esb] at h0;cases h0
   ·injection h1 with _ _ h1
    rw [h1]
    unfold maxLen at h4
    rw [hlen1] at h3
    omega
  have hto:=hk1.tr_to (w':=w1.setCell ⟨kp,7,none⟩ (.slice (some ⟨sb,0,none⟩) t.length a1.tC)) (r:=t) (A2:=a1.tA) (C2:=a1.tC) ((Frm.refl _ w1).setCell (p:=⟨kp,7,none⟩) (.inl (.inl rfl)) _) (by
   have:=hk1.blk.set 7 (.slice (some ⟨sb,0,none⟩) t.length a1.tC)
   rw [← esb] at this ⊢
   simpa [kcells] using this) (hpop.far (p:=⟨kp,7,none⟩) (fun ad had hx=>hk1.dj 11 0 kp (by omega) ⟨ad,had,hx⟩ rfl) _) (fun b hb=>.inl hb)
  have HTO:=Lib.hid hto
  have HG1:=Lib.hid hg1
  obtain ⟨hcp1,hcp2⟩:=hcap
  have htI:(0:Int)≤(t.length:Int):=by omega
  clear hk1 hrow hpop hto hg1 c7 htc hkl esb hlen1
  go_wp2
  go_ret2
  have e:({ tk with tr:=tk.tr.dropLast }:KS)={ tk with tr:=t }:=by rw [HGT.out];simp
  rw [e]
  refine ⟨rfl,_,HTO.out.1,?_⟩
  have h2:=HTO.out.2
  rw [HGN.out] at h2
  exact HG1.out.trans h2
end
def idE (n:Int):Int:=if n < 0∨64 < n then 1 else 0
def idR (n:Int):List Int:=if n < 0∨64 < n then [] else rng n.toNat
theorem Identity_any (n:Int) (w:World):Calls Tryz.prog 51 #[.int .i64 n] w (RetE w (idR n) (idE n)):=by
 by_cases h0:n < 0
 ·have he:idE n=1:=by unfold idE;rw [if_pos (.inl h0)]
  have hy:idR n=[]:=by unfold idR;rw [if_pos (.inl h0)]
  rw [he,hy]
  clear he hy
  go_enter Tryz.func51,Tryz.ntmps51
  go_wp2
  go_ret2
  exact ⟨none,0,rfl,NewL.nil w⟩
 ·by_cases h1:n > 64
  ·have he:idE n=1:=by unfold idE;rw [if_pos (.inr h1)]
   have hy:idR n=[]:=by unfold idR;rw [if_pos (.inr h1)]
   rw [he,hy]
   clear he hy
   go_enter Tryz.func51,Tryz.ntmps51
   go_wp2
   go_ret2
   exact ⟨none,0,rfl,NewL.nil w⟩
  ·have he:idE n=0:=by unfold idE;rw [if_neg (by omega)]
   have hy:idR n=rng n.toNat:=by unfold idR;rw [if_neg (by omega)]
   rw [he,hy]
   clear he hy
   obtain ⟨m,rfl⟩:∃ m:Nat,n=m:=⟨n.toNat,by omega⟩
   go_enter Tryz.func51,Tryz.ntmps51
   go_wp2_with (fail)
   refine (identity_any m w (by omega)).mono ?_
   rintro e w1 ⟨A2,C2,rfl,hN⟩
   have HN:=Lib.hid hN
   clear hN
   go_wp2
   go_ret2
   exact ⟨A2,C2,rfl,HN.out⟩
def rootsTo (l:List Int) (n:Nat):List Int:=((List.range n).filter fun i=>decide (0 < l.getD i 0)).map fun (i:Nat)=>(i:Int)
def rootsK (k:KS):List Int:=rootsTo k.hs k.hs.length
theorem rootsTo_succ (l:List Int) (n:Nat):rootsTo l (n+1)=if 0 < l.getD n 0 then rootsTo l n ++ [(n:Int)] else rootsTo l n:=by
 unfold rootsTo
 rw [List.range_succ,List.filter_append,List.map_append]
 by_cases h:0 < l.getD n 0
 ·rw [if_pos h,List.filter_cons,if_pos (decide_eq_true h)];rfl
 ·rw [if_neg h,List.filter_cons,if_neg (by simpa using h)];simp
theorem rootsTo_len (l:List Int) (n:Nat):(rootsTo l n).length≤n:=by
 unfold rootsTo
 rw [List.length_map]
 exact Nat.le_trans (List.length_filter_le _ _) (by simp)
section
variable {w:World} {kp:Nat} {k:KS} {a:KA} {ext:List Int} {X:List Ent} {n:Nd}
theorem kroots_any (h:KW w kp k a) (hb:Bk k ext X) :
  Calls Tryz.prog 22 #[.pointer (some ⟨kp,0,none⟩)] w fun e w'=>∃ A C,e=.returned (.slice A (rootsK k).length C)∧Row1 w' 28 rc A (rootsK k).length C (rootsK k)∧Fresh w.heap.size A∧Same w w':=by
 have hkl:=h.blk.lt
 have c3:=h.c3
 have hlen:k.hs.length≤1048576:=by
  have:=hb.ul
  have:=hb.ulm
  have:=hb.lim
  have:=hb.cM
  omega
 have hval:∀ (i:Nat) x,k.hs[i]?=some x→0≤x∧x≤65535:=fun i x hx=>⟨(hb.hol i x hx).1,(hb.hol i x hx).2.1⟩
 have H:=Lib.hid h
 have HV:=Lib.hid hval
 unfold rootsK
 clear h hb hval
 go_enter Tryz.func22,Tryz.ntmps22
 go_wp2_with (fail)
 go_loopw [14,3] (fun i l wr=>∃ (n:Nat) (A:Option Addr) (C:Nat),n≤k.hs.length∧i=.int .i64 n∧l=.slice A (rootsTo k.hs n).length C∧Row1 wr 28 rc A (rootsTo k.hs n).length C (rootsTo k.hs n)∧Fresh w.heap.size A∧Same w wr) (fun i _ _=>k.hs.length - (intOf i).toNat)
 case atStart=>exact ⟨0,none,0,by omega,rfl,rfl,Own.nil _ _ _ _,fresh_none _,Frm.refl _ _⟩
 case round =>
  obtain ⟨n,A,C,hn,rfl,rfl,hO,hF,hS⟩:=hrel
  have HO:=Lib.hid hO
  have HF:=Lib.hid hF
  have HS:=Lib.hid hS
  clear hO hF hS
  by_cases hlt:n < k.hs.length
  ·obtain ⟨x,hx⟩:∃ x,k.hs[n]?=some x:=⟨_,List.getElem?_eq_getElem hlt⟩
   obtain ⟨x0,x1⟩:=HV.out n x hx
   have hk:=H.out.same HS.out
   obtain ⟨sb,hA,hsb,_,hc,_⟩:=hk.atHs hx
   have hstep:=rootsTo_succ k.hs n
   have hxd:k.hs.getD n 0=x:=by rw [List.getD_eq_getElem?_getD,hx];rfl
   rw [hxd] at hstep
   have HST:=Lib.hid hstep
   have hI:(n:Int) < (k.hs.length:Int):=by omega
   have hrl:=rootsTo_len k.hs n
   rw [hA]
   clear hk hx hxd hstep hA
   by_cases hx0:0 < x
   ·have hx0':x > 0:=hx0
    have HX0:=Lib.hid hx0
    clear hx0
    go_upto_region 8 with fail
    refine wp_read 3 ?_
    simp only [List.take_succ_cons,List.take_zero,List.drop_succ_cons,List.drop_zero]
    repeat (any_goals (first | go_big_quiet_step (fail) | quiet_step (fail)))
    refine wpQuiet_nil ?_
    refine wpList_plain rfl fun K hK=>?_
    go_simp
    refine hK _ _ ?_
    clear hK K
    refine list_world fun wa hwa=>?_
    have hM:=Blk.new wr 28 #[.int .u32 (n:Int)]
    have hsa:Same wr wa:=by rw [hwa];exact (Frm.refl _ _).alloc _
    rw [← hwa] at hM
    clear hwa
    refine Own.append_list (f:=fun x=>[rc x]) rfl (.tmp 21) (.tmp 24) _ rfl Tryz.underlying40 info_ref rfl (by omega) rfl (HO.out.frm hsa (fun _ _=>id)) (fun _=>rfl) (n:Int) wr.heap.size 1 rfl hM (by simp [Value.oneCell',rc]) (by unfold maxLen;omega) (by omega) ?_
    intro gg cap wb hOb hgb hat
    have hSb:Same w wb:=by
     refine (HS.out.trans hsa (fun _ _ h=>h)).grown hgb (fun g hg=>.inr ?_)
     exact HF.out g (ownBlock_row.1 hg)
    have hFb:Fresh w.heap.size (some ⟨gg,0,none⟩):=by
     refine fresh_some ?_
     rcases hat with h | h
     ·exact HF.out gg (ownBlock_row.1 h)
     ·have:=HS.out.size;have:=hsa.size;omega
    have HOB:=Lib.hid hOb
    have HSB:=Lib.hid hSb
    have HFB:=Lib.hid hFb
    clear hOb hSb hFb hgb hat hM hsa
    go_wp2
    go_roundw
    case rel =>
     have hst:rootsTo k.hs (n+1)=rootsTo k.hs n ++ [(n:Int)]:=by rw [HST.out,if_pos HX0.out]
     refine ⟨n+1,some ⟨gg,0,none⟩,cap,by omega,by go_num,?_,?_,HFB.out,HSB.out⟩
     ·rw [hst,List.length_append];rfl
     ·rw [hst,List.length_append];exact HOB.out
    case measure=>simp [intOf] <;> omega
   ·have hx0':¬ x > 0:=hx0
    have HX0:=Lib.hid hx0
    clear hx0
    go_wp2
    go_roundw
    case rel =>
     have hst:rootsTo k.hs (n+1)=rootsTo k.hs n:=by rw [HST.out,if_neg HX0.out]
     refine ⟨n+1,A,C,by omega,by go_num,by rw [hst],?_,HF.out,HS.out⟩
     rw [hst];exact HO.out
    case measure=>simp [intOf] <;> omega
  ·obtain rfl:n=k.hs.length:=by omega
   have hI:¬ ((k.hs.length:Nat):Int) < (k.hs.length:Int):=by omega
   go_wp2
   go_ret
   exact ⟨A,C,rfl,HO.out,HF.out,HS.out⟩
theorem korder_any (h:KW w kp k a) (hl:k.ord.length≤64) :
  Calls Tryz.prog 25 #[.pointer (some ⟨kp,0,none⟩)] w (RetL w k.ord):=by
 have hkl:=h.blk.lt
 have c5:=h.c5
 have hc:=clone_any a.oA k.ord.length a.oC k.ord w h.ord.il (by omega)
 have HC:=Lib.hid hc
 clear h hc
 go_enter Tryz.func25,Tryz.ntmps25
 go_wp2_with (fail)
 refine HC.out.mono ?_
 rintro e w1 ⟨A,C,rfl,hN⟩
 go_wp2
 go_ret
 exact ⟨A,C,rfl,hN⟩
theorem kvars_any (h:KW w kp k a):Calls Tryz.prog 29 #[.pointer (some ⟨kp,0,none⟩)] w fun e w'=>e=.returned (.int .i64 k.n)∧w=w':=by
 have hkl:=h.blk.lt
 have c4:=h.c4
 clear h
 go_enter Tryz.func29,Tryz.ntmps29
 go_wp2
 go_ret
 exact ⟨rfl,rfl⟩
theorem knodes_any (h:KW w kp k a):Calls Tryz.prog 30 #[.pointer (some ⟨kp,0,none⟩)] w fun e w'=>e=.returned (.int .i64 k.c)∧w=w':=by
 have hkl:=h.blk.lt
 have c0:=h.c0
 have hp:=Lib.hid h.ar.places
 clear h
 go_enter Tryz.func30,Tryz.ntmps30
 go_wp2_with (fail)
 refine hp.out.mono ?_
 rintro e w1 ⟨rfl,rfl⟩
 go_wp2
 go_ret
 exact ⟨rfl,rfl⟩
theorem klive2_any (h:KW w kp k a) (hc:k.ac≤4000000):Calls Tryz.prog 18 #[.pointer (some ⟨kp,0,none⟩)] w fun e w'=>e=.returned (.int .i64 ((k.ac:Int) - 2))∧w=w':=by
 have hkl:=h.blk.lt
 have c0:=h.c0
 have hp:=Lib.hid h.ar.used
 clear h
 go_enter Tryz.func18,Tryz.ntmps18
 go_wp2_with (fail)
 refine hp.out.mono ?_
 rintro e w1 ⟨rfl,rfl⟩
 go_wp2
 go_ret
 exact ⟨rfl,rfl⟩
theorem ktrail_any (h:KW w kp k a):Calls Tryz.prog 35 #[.pointer (some ⟨kp,0,none⟩)] w fun e w'=>e=.returned (.int .i64 k.tr.length)∧w=w':=by
 have hkl:=h.blk.lt
 have c7:=h.c7
 clear h
 go_enter Tryz.func35,Tryz.ntmps35
 go_wp2
 go_ret
 exact ⟨rfl,rfl⟩
theorem kcollect_any (p:Option Addr):Calls Tryz.prog 34 #[.pointer p] w fun e w'=>e=.returned (.tuple #[])∧w=w':=by
 go_enter Tryz.func34,Tryz.ntmps34
 go_wp2
 go_end0
 exact ⟨rfl,rfl⟩
def lvlE (k:KS) (v:Int):Int:=if 0≤v∧v < k.n then 0 else 2
def lvlR (k:KS) (v:Int):Int:=if 0≤v∧v < k.n then levK k v else 0
theorem klevel_any (h:KW w kp k a) (hl:Lv k) (v:Int) :
  Calls Tryz.prog 33 #[.pointer (some ⟨kp,0,none⟩),.int .i64 v] w fun e w'=>e=.returned (.tuple #[.int .i64 (lvlR k v),.int .i64 (lvlE k v)])∧w=w':=by
 have hkl:=h.blk.lt
 have hv:=kvariable_any h v
 unfold lvlR lvlE levK
 have HV:=Lib.hid hv
 by_cases hc:0≤v∧v < k.n
 ·rw [if_pos hc,if_pos hc]
  have hb:decide (0≤v∧v < k.n)=true:=by simpa using hc
  rw [hb] at HV
  obtain ⟨m,rfl⟩:=Int.eq_ofNat_of_zero_le hc.1
  have hm:m < k.lev.length:=by rw [hl.ll];omega
  have hx:=List.getElem?_eq_getElem hm
  obtain ⟨lb,elb,hlb,hlc⟩:=h.lev.at1 hx
  have c6:=h.c6
  rw [elb] at c6
  have hd:k.lev.getD (m:Int).toNat 0=k.lev[m]:=by rw [Int.toNat_natCast,List.getD_eq_getElem?_getD,hx];rfl
  rw [hd]
  replace hlc:w.cell? ⟨lb,m,none⟩=some (.int .i64 k.lev[m]):=hlc
  generalize k.lev[m]=x at *
  have hmI:(m:Int) < (k.lev.length:Int):=by omega
  clear h hv hb hx elb hd hc hl
  go_enter Tryz.func33,Tryz.ntmps33
  go_wp2_with (fail)
  refine HV.out.mono ?_
  rintro e w1 ⟨rfl,rfl⟩
  go_wp2
  go_ret2
  exact ⟨rfl,rfl⟩
 ·rw [if_neg hc,if_neg hc]
  have hb:decide (0≤v∧v < k.n)=false:=by simpa using hc
  rw [hb] at HV
  clear h hv hb hc hl
  go_enter Tryz.func33,Tryz.ntmps33
  go_wp2_with (fail)
  refine HV.out.mono ?_
  rintro e w1 ⟨rfl,rfl⟩
  go_wp2
  go_ret2
  exact ⟨rfl,rfl⟩
def wdR (k:KS) (v:Int):Nat:=if 0≤v∧v < k.n then (ofv k.L v.toNat).length else 0
theorem kwidth_any (h:KW w kp k a) (v:Int) :
  Calls Tryz.prog 32 #[.pointer (some ⟨kp,0,none⟩),.int .i64 v] w fun e w'=>e=.returned (.tuple #[.int .i64 (wdR k v),.int .i64 (lvlE k v)])∧w=w':=by
 have hkl:=h.blk.lt
 have hv:=kvariable_any h v
 have hct:=uqcount_any a.U k.n k.L v w h.ut
 have c1:=h.c1
 unfold wdR lvlE
 have HV:=Lib.hid hv
 by_cases hc:0≤v∧v < k.n
 ·have hve:vErr k.n v=0:=by unfold vErr;rw [if_pos hc]
  rw [if_pos hc,hve] at hct
  rw [if_pos hc,if_pos hc]
  have hb:decide (0≤v∧v < k.n)=true:=by simpa using hc
  rw [hb] at HV
  have HCT:=Lib.hid hct
  clear h hv hb hc hct hve
  go_enter Tryz.func32,Tryz.ntmps32
  go_wp2_with (fail)
  refine HV.out.mono ?_
  rintro e w1 ⟨rfl,rfl⟩
  go_wp2_with (fail)
  refine HCT.out.mono ?_
  rintro e w1 ⟨rfl,rfl⟩
  go_wp2
  go_ret2
  exact ⟨rfl,rfl⟩
 ·rw [if_neg hc,if_neg hc]
  have hb:decide (0≤v∧v < k.n)=false:=by simpa using hc
  rw [hb] at HV
  clear h hv hb hc hct
  go_enter Tryz.func32,Tryz.ntmps32
  go_wp2_with (fail)
  refine HV.out.mono ?_
  rintro e w1 ⟨rfl,rfl⟩
  go_wp2
  go_ret2
  exact ⟨rfl,rfl⟩
end
structure PS where
 k:KS
 m:MS
 refs:List Int
 ts:List (List Nat)
 live:List (List Nat)
 dead:List Bool
structure PA where
 kp:Nat
 a:KA
 mp:Nat
 b:MA
 rA:Option Addr
 rC:Nat
 tA:Option Addr
 tC:Nat
 tt:List Tb
 vA:Option Addr
 vC:Nat
 vv:List Tb
 dA:Option Addr
 dC:Nat
def pcells (p:PS) (q:PA):Array Value:=#[.pointer (some ⟨q.kp,0,none⟩),.pointer (some ⟨q.mp,0,none⟩),.slice q.rA p.refs.length q.rC,.slice q.tA q.tt.length q.tC,.slice q.vA q.vv.length q.vC,.slice q.dA p.dead.length q.dC]
def LFp (pp:Nat) (q:PA) (b:Nat):Prop:=b=pp∨rowOf q.rA b∨rowOf q.tA b∨rowOf q.vA b∨rowOf q.dA b∨MFp q.mp q.b b
structure PW (B:Nat→Prop) (w:World) (pp:Nat) (p:PS) (q:PA):Prop where
 blk:Blk w pp 58 (pcells p q)
 k:KW w q.kp p.k q.a
 m:MW w q.mp p.m q.b
 refs:Row1 w 28 rc q.rA p.refs.length q.rC p.refs
 ts:Go.Tk.Own w 108 2 Tb.cells q.tA q.tt.length q.tC q.tt
 tt:∀ t∈q.tt,TW w p.m.n t
 te:q.tt.map Tb.ws=p.ts
 vs:Go.Tk.Own w 108 2 Tb.cells q.vA q.vv.length q.vC q.vv
 vt:∀ t∈q.vv,TW w p.m.n t
 ve:q.vv.map Tb.ws=p.live
 ds:OwnB w q.dA p.dead.length q.dC p.dead
 kl:∀ b,LFp pp q b→¬ KFp p.k.n q.kp q.a b
 tv:∀ b,rowOf q.tA b→¬ rowOf q.vA b
 base:∀ b,KFp p.k.n q.kp q.a b∨LFp pp q b→¬ B b
abbrev Up (B:Nat→Prop) (w w':World):Prop:=Frm (fun b=>¬ B b) w w'
section
variable {w w':World} {B:Nat→Prop} {pp:Nat} {p:PS} {q:PA} {n:Nat} {t:Tb} {kp:Nat} {k:KS} {a:KA}
theorem Up.trans {w1 w2:World} (h:Up B w w1) (g:Up B w1 w2):Up B w w2:=Frm.trans h g (fun _ _ h=>h)
theorem Up.ofSame (h:Same w w'):Up B w w':=Frm.mono h (fun _ _ h=>h.elim)
theorem kne_own {e:TypeId} {m:Nat} {α:Type} {f:α→List Value} {A:Option Addr} {N C:Nat} {xs:List α} (hk:KW w kp k a) (ho:Go.Tk.Own w e m f A N C xs) (h1:e≠100) (h2:e≠141) (h3:e≠166) (h4:e≠28) (h5:e≠131) (h6:e≠21) (h7:e≠3)
  (h8:∀ x,A=some x→∃ u,w.cell? ⟨x.block,0,none⟩=some u∧∀ z,u≠.map z):∀ b,rowOf A b→¬ KFp k.n kp a b:=by
 rintro b ⟨x,hx,rfl⟩ ⟨i,hi⟩
 match i with
 | 0=>exact ho.ne_blk hk.blk h1 x hx hi
 | 1=>exact ho.ne_blk hk.ar.blk h2 x hx hi
 | 2=>exact ho.ne_own hk.ar.own h3 _ ⟨x,hx,rfl⟩ hi
 | 3=>exact ho.ne_own hk.ar.fown h4 _ ⟨x,hx,rfl⟩ hi
 | 4=>exact ho.ne_blk hk.ut.t h5 x hx hi
 | 5 =>
  obtain ⟨u,hu,hz⟩:=h8 x hx
  have h0:=hk.ut.s 0 hk.ut.hv.1
  have hi':x.block=a.U.sb:=hi
  rw [hi',h0] at hu
  injection hu with hu
  exact hz _ hu.symm
 | 6 =>
  obtain ⟨v,hv,hb⟩:=hi
  obtain ⟨u,hu,hz⟩:=h8 x hx
  have hm:=hk.ut.m v hv
  rw [← hb] at hm
  obtain ⟨D,⟨es,clock,hh,_⟩,_⟩:=hm
  unfold World.cell? at hu
  rw [hh] at hu
  cases hu
 | 7=>exact ho.ne_own hk.us h6 _ ⟨x,hx,rfl⟩ hi
 | 8=>exact ho.ne_own hk.hs h6 _ ⟨x,hx,rfl⟩ hi
 | 9=>exact ho.ne_own hk.ord h7 _ ⟨x,hx,rfl⟩ hi
 | 10=>exact ho.ne_own hk.lev h7 _ ⟨x,hx,rfl⟩ hi
 | 11=>exact ho.ne_own hk.tr h7 _ ⟨x,hx,rfl⟩ hi
 | _+12=>exact hi.elim
theorem tw_k (hk:KW w kp k a) (ht:TW w n t):∀ b,rowOf t.A b→¬ KFp k.n kp a b:=by
 refine kne_own hk ht.own (by decide) (by decide) (by decide) (by decide) (by decide) (by decide) (by decide) ?_
 intro x hx
 have hl:0 < t.ws.length:=by rw [ht.fm.len];exact nw_pos n
 obtain ⟨sb,hA,_,hc⟩:=Own.at1 (c:=fun x:Nat=>.int .u64 (x:Int)) ht.own (List.getElem?_eq_getElem hl)
 rw [hx] at hA
 injection hA with hA
 subst hA
 exact ⟨_,hc,fun z h=>by cases h⟩
theorem PW.c0 (h:PW B w pp p q):w.cell? ⟨pp,0,none⟩=some (.pointer (some ⟨q.kp,0,none⟩)):=h.blk.cell 0
theorem PW.c1 (h:PW B w pp p q):w.cell? ⟨pp,1,none⟩=some (.pointer (some ⟨q.mp,0,none⟩)):=h.blk.cell 1
theorem PW.c2 (h:PW B w pp p q):w.cell? ⟨pp,2,none⟩=some (.slice q.rA p.refs.length q.rC):=h.blk.cell 2
theorem PW.c3 (h:PW B w pp p q):w.cell? ⟨pp,3,none⟩=some (.slice q.tA q.tt.length q.tC):=h.blk.cell 3
theorem PW.c4 (h:PW B w pp p q):w.cell? ⟨pp,4,none⟩=some (.slice q.vA q.vv.length q.vC):=h.blk.cell 4
theorem PW.c5 (h:PW B w pp p q):w.cell? ⟨pp,5,none⟩=some (.slice q.dA p.dead.length q.dC):=h.blk.cell 5
theorem PW.tl (h:PW B w pp p q):q.tt.length=p.ts.length:=by rw [← h.te,List.length_map]
theorem PW.vl (h:PW B w pp p q):q.vv.length=p.live.length:=by rw [← h.ve,List.length_map]
theorem PW.llt (h:PW B w pp p q):∀ b,LFp pp q b→b < w.heap.size:=by
 rintro b (rfl | hb | hb | hb | hb | hb)
 ·exact h.blk.lt
 ·exact row_lt h.refs hb
 ·exact row_lt h.ts hb
 ·exact row_lt h.vs hb
 ·exact row_lt h.ds hb
 ·exact h.m.lt hb
theorem PW.same (h:PW B w pp p q) (hs:Same w w'):PW B w' pp p q :=
 ⟨h.blk.frm hs id,h.k.same hs,h.m.same hs,h.refs.frm hs (fun _ _=>id),h.ts.frm hs (fun _ _=>id),fun t ht=>(h.tt t ht).same hs,h.te,h.vs.frm hs (fun _ _=>id),fun t ht=>(h.vt t ht).same hs,h.ve,h.ds.frm hs (fun _ _=>id),h.kl,h.tv,h.base⟩
theorem PW.kernel {k':KS} {a':KA} (h:PW B w pp p q) (hk:KW w' q.kp k' a') (hg:KGo p.k.n q.kp w q.a w' a') (hn:k'.n=p.k.n) (hB:∀ b,B b→b < w.heap.size):PW B w' pp { p with k:=k' } { q with a:=a' }∧Up B w w':=by
 have hkl:∀ b,LFp pp { q with a:=a' } b→¬ KFp k'.n q.kp a' b:=by
  intro b hb
  rw [hn]
  exact hg.apart h.kl h.llt b hb
 have tk:∀ t,TW w p.m.n t→TW w' p.m.n t:=fun t ht=>⟨ht.N,ht.own.frm hg.frm (fun x hx=>tw_k h.k ht _ ⟨x,hx,rfl⟩),ht.fm,ht.sm⟩
 refine ⟨⟨h.blk.frm hg.frm (h.kl _ (.inl rfl)),hk,h.m.frm hg.frm (fun b hb=>h.kl b (.inr (.inr (.inr (.inr (.inr hb)))))) (fun r hr b hb=>tw_k h.k (h.m.tw r hr) b hb),h.refs.frm hg.frm (fun x hx=>h.kl _ (.inr (.inl ⟨x,hx,rfl⟩))),h.ts.frm hg.frm (fun x hx=>h.kl _ (.inr (.inr (.inl ⟨x,hx,rfl⟩)))),fun t ht=>tk t (h.tt t ht),h.te,
  h.vs.frm hg.frm (fun x hx=>h.kl _ (.inr (.inr (.inr (.inl ⟨x,hx,rfl⟩))))),fun t ht=>tk t (h.vt t ht),h.ve,h.ds.frm hg.frm (fun x hx=>h.kl _ (.inr (.inr (.inr (.inr (.inl ⟨x,hx,rfl⟩)))))),hkl,h.tv,?_⟩,hg.frm.mono (fun b _ hb=>h.base b (.inl hb))⟩
 rintro b (hb | hb)
 ·rw [hn] at hb
  rcases hg.fp b hb with h1 | h1
  ·exact h.base b (.inl h1)
  ·exact fun hx=>by have:=hB b hx;omega
 ·exact h.base b (.inr hb)
theorem PW.model {m':MS} {b':MA} (h:PW B w pp p q) (hm:MW w' q.mp m' b') (hg:MGo q.mp w q.b w' b') (hn:m'.n=p.m.n) (hB:∀ b,B b→b < w.heap.size):PW B w' pp { p with m:=m' } { q with b:=b' }∧Up B w w':=by
 have hK:∀ b,KFp p.k.n q.kp q.a b→¬ MFp q.mp q.b b:=fun b hb hm=>h.kl b (.inr (.inr (.inr (.inr (.inr hm))))) hb
 have tm:∀ t,TW w p.m.n t→TW w' m'.n t:=fun t ht=>by rw [hn];exact ht.frmM h.m hg.frm (fun _ h=>h)
 refine ⟨⟨h.blk.frm hg.frm ?_,h.k.frm hg.frm hK,hm,h.refs.frm hg.frm (fun x hx=>h.m.ne_own h.refs (by decide) (by decide) (by decide) _ ⟨x,hx,rfl⟩),h.ts.frm hg.frm (fun x hx=>h.m.ne_own h.ts (by decide) (by decide) (by decide) _ ⟨x,hx,rfl⟩),fun t ht=>tm t (h.tt t ht),h.te,
  h.vs.frm hg.frm (fun x hx=>h.m.ne_own h.vs (by decide) (by decide) (by decide) _ ⟨x,hx,rfl⟩),fun t ht=>tm t (h.vt t ht),h.ve,h.ds.frm hg.frm (fun x hx=>h.m.ne_own h.ds (by decide) (by decide) (by decide) _ ⟨x,hx,rfl⟩),?_,h.tv,?_⟩,hg.frm.mono (fun b _ hb=>h.base b (.inr (.inr (.inr (.inr (.inr (.inr hb)))))))⟩
 ·rintro (hb | ⟨x,hx,hb⟩ | ⟨x,hx,hb⟩ | ⟨x,hx,hb⟩)
  ·have:=h.blk
   rw [hb] at this
   exact absurd (Blk.inj this h.m.blk).1 (by decide)
  ·exact h.m.ord.ne_blk h.blk (by decide) x hx hb
  ·exact h.m.hs.ne_blk h.blk (by decide) x hx hb
  ·exact h.m.tr.ne_blk h.blk (by decide) x hx hb
 ·rintro b (hb | hb | hb | hb | hb | hb) hk
  ·exact h.kl b (.inl hb) hk
  ·exact h.kl b (.inr (.inl hb)) hk
  ·exact h.kl b (.inr (.inr (.inl hb))) hk
  ·exact h.kl b (.inr (.inr (.inr (.inl hb)))) hk
  ·exact h.kl b (.inr (.inr (.inr (.inr (.inl hb))))) hk
  ·rcases hg.fp b hb with h1 | h1
   ·exact h.kl b (.inr (.inr (.inr (.inr (.inr h1))))) hk
   ·have:=h.k.lt hk
    omega
 ·rintro b (hb | hb | hb | hb | hb | hb | hb)
  ·exact h.base b (.inl hb)
  ·exact h.base b (.inr (.inl hb))
  ·exact h.base b (.inr (.inr (.inl hb)))
  ·exact h.base b (.inr (.inr (.inr (.inl hb))))
  ·exact h.base b (.inr (.inr (.inr (.inr (.inl hb)))))
  ·exact h.base b (.inr (.inr (.inr (.inr (.inr (.inl hb))))))
  ·rcases hg.fp b hb with h1 | h1
   ·exact h.base b (.inr (.inr (.inr (.inr (.inr (.inr h1))))))
   ·exact fun hx=>by have:=hB b hx;omega
end
def liveM (M:MS):List (List Nat):=(levelsL M.n (zsM M) M.ord).flatten
def countP (p:PS):PS:={ p with live:=liveM p.m }
section
variable {w w':World} {B:Nat→Prop} {pp:Nat} {p:PS} {q:PA} {n:Nat} {t:Tb} {kp:Nat} {k:KS} {a:KA}
theorem TW.frmT (ht:TW w n t) {S:Nat→Prop} (hf:Frm S w w') {g:Nat} {ty:TypeId} {cs:Array Value} (hb:Blk w g ty cs) (h1:123≠ty) {e:TypeId} {m:Nat} {α:Type} {f:α→List Value} {A:Option Addr} {N C:Nat} {xs:List α} (ho:Go.Tk.Own w e m f A N C xs) (h2:123≠e) (hS:∀ b,S b→b=g∨rowOf A b):TW w' n t :=
 ⟨ht.N,ht.own.frm hf (fun x hx hs=>by
  rcases hS _ hs with h | h
  ·exact ht.own.ne_blk hb h1 x hx h
  ·exact ht.own.ne_own ho h2 _ ⟨x,hx,rfl⟩ h),ht.fm,ht.sm⟩
theorem PW.vs_to {A2:Option Addr} {C2:Nat} {vs:List Tb} (h:PW B w pp p q) (hf:Frm (fun b=>b=pp∨rowOf q.vA b) w w') (hb:Blk w' pp 58 (pcells { p with live:=vs.map Tb.ws } { q with vA:=A2,vC:=C2,vv:=vs }))
  (ho:Go.Tk.Own w' 108 2 Tb.cells A2 vs.length C2 vs) (ht:∀ t∈vs,TW w p.m.n t) (hn:∀ b,rowOf A2 b→rowOf q.vA b∨w.heap.size≤b) (hB:∀ b,B b→b < w.heap.size) :
  PW B w' pp { p with live:=vs.map Tb.ws } { q with vA:=A2,vC:=C2,vv:=vs }∧Up B w w':=by
 have hS:∀ b,(b=pp∨rowOf q.vA b)→LFp pp q b:=fun b hb=>hb.elim .inl (fun h=>.inr (.inr (.inr (.inl h))))
 have tk:∀ t,TW w p.m.n t→TW w' p.m.n t:=fun t ht=>ht.frmT hf h.blk (by decide) h.vs (by decide) (fun _ h=>h)
 have hM:∀ b,MFp q.mp q.b b→¬ (b=pp∨rowOf q.vA b):=by
  rintro b hm (hb | hb)
  ·subst hb
   rcases hm with hm | ⟨x,hx,hm⟩ | ⟨x,hx,hm⟩ | ⟨x,hx,hm⟩
   ·have:=h.blk
    rw [hm] at this
    exact absurd (Blk.inj this h.m.blk).1 (by decide)
   ·exact h.m.ord.ne_blk h.blk (by decide) x hx hm
   ·exact h.m.hs.ne_blk h.blk (by decide) x hx hm
   ·exact h.m.tr.ne_blk h.blk (by decide) x hx hm
  ·exact h.m.ne_own h.vs (by decide) (by decide) (by decide) b hb hm
 refine ⟨⟨hb,h.k.frm hf (fun b hk hs=>h.kl b (hS b hs) hk),h.m.frm hf hM (fun r hr b hrb hs=>?_),h.refs.frm hf ?_,h.ts.frm hf ?_,fun t ht=>tk t (h.tt t ht),h.te,ho,fun t hm=>tk t (ht t hm),rfl,h.ds.frm hf ?_,?_,?_,?_⟩,hf.mono (fun b _ hb=>h.base b (.inr (hS b hb)))⟩
 ·obtain ⟨x,hx,rfl⟩:=hrb
  rcases hs with hs | hs
  ·exact (h.m.tw r hr).own.ne_blk h.blk (by decide) x hx hs
  ·exact (h.m.tw r hr).own.ne_own h.vs (by decide) _ ⟨x,hx,rfl⟩ hs
 ·rintro x hx (hs | hs)
  ·exact h.refs.ne_blk h.blk (by decide) x hx hs
  ·exact h.refs.ne_own h.vs (by decide) _ ⟨x,hx,rfl⟩ hs
 ·rintro x hx (hs | hs)
  ·exact h.ts.ne_blk h.blk (by decide) x hx hs
  ·exact h.tv _ ⟨x,hx,rfl⟩ hs
 ·rintro x hx (hs | hs)
  ·exact h.ds.ne_blk h.blk (by decide) x hx hs
  ·exact h.ds.ne_own h.vs (by decide) _ ⟨x,hx,rfl⟩ hs
 ·rintro b (hb | hb | hb | hb | hb | hb) hk
  ·exact h.kl b (.inl hb) hk
  ·exact h.kl b (.inr (.inl hb)) hk
  ·exact h.kl b (.inr (.inr (.inl hb))) hk
  ·rcases hn b hb with h1 | h1
   ·exact h.kl b (.inr (.inr (.inr (.inl h1)))) hk
   ·have:=h.k.lt hk
    omega
  ·exact h.kl b (.inr (.inr (.inr (.inr (.inl hb))))) hk
  ·exact h.kl b (.inr (.inr (.inr (.inr (.inr hb))))) hk
 ·intro b hb hv
  rcases hn b hv with h1 | h1
  ·exact h.tv b hb h1
  ·have:=row_lt h.ts hb
   omega
 ·rintro b (hb | hb | hb | hb | hb | hb | hb)
  ·exact h.base b (.inl hb)
  ·exact h.base b (.inr (.inl hb))
  ·exact h.base b (.inr (.inr (.inl hb)))
  ·exact h.base b (.inr (.inr (.inr (.inl hb))))
  ·rcases hn b hb with h1 | h1
   ·exact h.base b (.inr (.inr (.inr (.inr (.inl h1)))))
   ·exact fun hx=>by have:=hB b hx;omega
  ·exact h.base b (.inr (.inr (.inr (.inr (.inr (.inl hb))))))
  ·exact h.base b (.inr (.inr (.inr (.inr (.inr (.inr hb))))))
theorem PW.vs_nil (h:PW B w pp p q) (hB:∀ b,B b→b < w.heap.size):PW B (w.setCell ⟨pp,4,none⟩ (.slice none 0 0)) pp { p with live:=[] } { q with vA:=none,vC:=0,vv:=[] }∧Up B w (w.setCell ⟨pp,4,none⟩ (.slice none 0 0)):=by
 refine h.vs_to (vs:=[]) (A2:=none) (C2:=0) ((Frm.refl _ _).set 4 _ (.inl rfl)) ?_ (Own.nil _ _ _ _) (fun t ht=>by cases ht) (fun b hb=>?_) hB
 ·have:=h.blk.set 4 (.slice none 0 0)
  simpa [pcells] using this
 ·obtain ⟨x,hx,_⟩:=hb
  cases hx
theorem live_len (M:MS) (hz:M.held.length≤2000000) (ho:M.ord.length≤16) (k:Nat) (hk:k≤16):(((levelsL M.n (zsM M) M.ord).take k).flatten).length≤2097152000000:=by
 have h1:=sum_small (levelsL M.n (zsM M) M.ord) 131072000000 (level_small M.n (zsM M) (by unfold zsM;rw [List.length_map];exact hz) M.ord ho) k
 rw [List.length_flatten]
 have:=Nat.mul_le_mul_right 131072000000 hk
 omega
theorem LN.far {lo:Nat} {w:World} {A:Option Addr} {C:Nat} {rs:List LRow} (h:LN lo w n A C rs) {g:Nat} {ty:TypeId} {cs:Array Value} (hb:Blk w g ty cs) (h1:55≠ty) (h2:108≠ty) (h3:123≠ty) {i:Nat} {u:Value}:LN lo (w.setCell ⟨g,i,none⟩ u) n A C rs :=
 ⟨h.own.far (p:=⟨g,i,none⟩) (fun x hx=>h.own.ne_blk hb h1 x hx) u,fun r hr=>⟨(h.tn r hr).own.far (p:=⟨g,i,none⟩) (fun x hx=>(h.tn r hr).own.ne_blk hb h2 x hx) u,fun t ht=>⟨((h.tn r hr).tw t ht).N,((h.tn r hr).tw t ht).own.far (p:=⟨g,i,none⟩) (fun x hx=>((h.tn r hr).tw t ht).own.ne_blk hb h3 x hx) u,((h.tn r hr).tw t ht).fm,((h.tn r hr).tw t ht).sm⟩,(h.tn r hr).fresh⟩,h.fresh⟩
theorem count_law (hP:PW B w pp p q) (ho:OrdOk p.m) (hB:∀ b,B b→b < w.heap.size) :
  Calls Tryz.prog 50 #[.pointer (some ⟨pp,0,none⟩)] w fun e w'=>e=.returned (.tuple #[])∧(∃ q',PW B w' pp (countP p) q')∧Up B w w':=by
 have hpl:=hP.blk.lt
 have f4:=hP.blk.free 4
 have c4:=hP.c4
 have HP:=Lib.hid hP
 have HO:=Lib.hid ho
 clear hP ho
 go_enter Tryz.func50,Tryz.ntmps50
 go_upto_region 1 with fail
 have h1:=HP.out.vs_nil hB
 have hsz1:(w.setCell ⟨pp,4,none⟩ (.slice none 0 0)).heap.size=w.heap.size:=by simp
 generalize w.setCell ⟨pp,4,none⟩ (.slice none 0 0)=w1 at h1 hsz1 ⊢
 clear c4 f4 hpl
 have c1:=h1.1.c1
 have hpl:=h1.1.blk.lt
 have hlv:=levels9_any h1.1.m HO.out
 have HLV:=Lib.hid hlv
 have H1:=Lib.hid h1
 clear h1 hlv
 go_wp2_with (fail)
 refine HLV.out.mono ?_
 rintro e w2 ⟨A2,C2,rs,rfl,hLN,hlz,hs2⟩
 have hrl:rs.length≤16:=by
  have h1:(lz rs).length=p.m.ord.length:=by rw [hlz];unfold levelsL;rw [levels_len];simp
  rw [lz_len] at h1
  have:=HP.out.m.ol
  omega
 have hrlt:∀ r∈rs,∀ b,rowOf r.A b→b < w2.heap.size:=fun r hr b hb=>row_lt (hLN.tn r hr).own hb
 have HRLT:=Lib.hid hrlt
 have HLN:=Lib.hid hLN
 have HLZ:=Lib.hid hlz
 have HP2:=Lib.hid (H1.out.1.same hs2)
 have HU2:=Lib.hid (H1.out.2.trans (Up.ofSame hs2))
 have hB2:∀ b,B b→b < w2.heap.size:=fun b hb=>by have:=hB b hb;have:=hs2.size;omega
 clear hLN hlz hs2 hrlt c1 hpl
 go_wp2_with (fail)
 go_loopw [13] (fun i wr=>∃ (k:Nat) (A:Option Addr) (C:Nat) (vs:List Tb),k≤rs.length∧i=.int .i64 k∧PW B wr pp { p with live:=vs.map Tb.ws } { q with vA:=A,vC:=C,vv:=vs }∧vs.map Tb.ws=((lz rs).take k).flatten∧(∀ b,rowOf A b→w2.heap.size≤b)∧LN w1.heap.size wr p.m.n A2 C2 rs∧Up B w wr∧w2.heap.size≤wr.heap.size) (fun i _=>rs.length - (intOf i).toNat)
 case atStart=>exact ⟨0,none,0,[],by omega,rfl,HP2.out,by simp,(fun b hb=>by obtain ⟨x,hx,_⟩:=hb;cases hx),HLN.out,HU2.out,Nat.le_refl _⟩
 case round =>
  obtain ⟨k,A3,C3,vs,hk,rfl,hPr,hvs,hfr,hLN,hU,hsz⟩:=hrel
  by_cases hlt:k < rs.length
  ·obtain ⟨r,hr⟩:∃ r,rs[k]?=some r:=⟨_,List.getElem?_eq_getElem hlt⟩
   obtain ⟨sb,hA1,hsb,hc⟩:=hLN.own.get LRow.cells_len hr
   have c0:wr.cell? ⟨sb,k * 1,none⟩=some (.slice r.A r.ts.length r.C):=hc 0 (by omega)
   rw [Nat.mul_one] at c0
   have hI:(k:Int) < (rs.length:Int):=by omega
   have hTr:=hLN.tn r (List.mem_of_getElem? hr)
   have hstep:((lz rs).take (k+1)).flatten=vs.map Tb.ws ++ r.ts.map Tb.ws:=by
    have:(lz rs)[k]?=some (r.ts.map Tb.ws):=by unfold lz;rw [List.getElem?_map,hr];rfl
    rw [List.take_add_one,this,hvs]
    simp
   have hbig:(vs ++ r.ts).length≤2097152000000:=by
    have h1:=live_len p.m (by have:=HP.out.m.hl;omega) HP.out.m.ol (k+1) (by omega)
    rw [← HLZ.out,hstep] at h1
    simpa using h1
   have c4:=hPr.c4
   have hpl:=hPr.blk.lt
   simp only at c4
   have hvr:∀ q∈rs,∀ b,rowOf A3 b→¬ rowOf q.A b:=fun q hq b hb hb2=>by
    have h1:=hfr b hb
    have h2:=HRLT.out q hq b hb2
    omega
   have HST:=Lib.hid hstep
   have HPR:=Lib.hid hPr
   have HFR:=Lib.hid hfr
   have HLR:=Lib.hid hLN
   have HU:=Lib.hid hU
   have HTR:=Lib.hid hTr
   have HVR:=Lib.hid hvr
   rw [List.length_append] at hbig
   clear hr hc hstep hTr hvs hPr hfr hLN hU hvr
   subst hA1
   go_upto_region 4 with fail
   refine wp_read 6 ?_
   simp only [List.take_succ_cons,List.take_zero,List.drop_succ_cons,List.drop_zero]
   repeat (any_goals (first | go_big_quiet_step (fail) | quiet_step (fail)))
   refine wpQuiet_nil ?_
   refine wpList_plain rfl fun K hK=>?_
   refine Own.append_many (.tmp 21) (.tmp 22) _ rfl Tryz.underlying55 info_tbl rfl (by omega) rfl HPR.out.vs Tb.cells_len r.ts r.A r.C rfl (fun hne=>Sl.source Tb.cells_len (by omega) HTR.out.tl.sl hne) (fun y _=>Tb.one y) (by simp [maxLen] <;> omega) (by simp only;omega) ?_
   intro A4 C4 w4 hO4 hg4 hat4
   refine hK _ _ ?_
   clear hK K
   have hb4:=HPR.out.blk.grown hg4 (fun hx=>by
    obtain ⟨x,hx,hxb⟩:=ownBlock_row.1 hx.symm
    exact HPR.out.vs.ne_blk HPR.out.blk (by decide) x hx hxb)
   have f4:=hb4.free 4
   have c4':=hb4.cell 4
   have hpl4:=hb4.lt
   simp [pcells] at c4'
   have hfr4:Frm (fun b=>b=pp∨rowOf A3 b) wr w4:=(Frm.refl _ _).grown hg4 (fun g hg=>.inl (.inr (ownBlock_row.1 hg)))
   have hto:=HPR.out.vs_to (w':=w4.setCell ⟨pp,4,none⟩ (.slice A4 (vs.length+r.ts.length) C4)) (vs:=vs ++ r.ts) (A2:=A4) (C2:=C4) (hfr4.set 4 _ (.inl rfl)) (by
     have:=hb4.set 4 (.slice A4 (vs.length+r.ts.length) C4)
     simpa [pcells] using this)
    (hO4.far (p:=⟨pp,4,none⟩) (fun x hx h=>Own.ne_blk hO4 hb4 (by decide) x hx h) _)
    (fun t ht=>by
     rcases List.mem_append.1 ht with ht | ht
     ·exact HPR.out.vt t ht
     ·exact HTR.out.tw t ht)
    (fun b hb=>(hat4 b hb).elim .inl (fun h=>.inr (Nat.le_of_eq h.symm))) (fun b hb=>by have:=hB2 b hb;omega)
   have HTO:=Lib.hid hto
   have hl4:=HLR.out.keep (lo':=0) ⟨HPR.out.vs,HPR.out.vt,fun _ _=>Nat.zero_le _⟩ hg4 HVR.out
   have HL4:=Lib.hid (show LN w1.heap.size (w4.setCell ⟨pp,4,none⟩ (.slice A4 (vs.length+r.ts.length) C4)) p.m.n (some ⟨sb,0,none⟩) C2 rs from hl4.far hb4 (by decide) (by decide) (by decide))
   have HFR4:=Lib.hid (show ∀ b,rowOf A4 b→w2.heap.size≤b from fun b hb=>(hat4 b hb).elim (HFR.out b) (fun h=>by omega))
   have hsz4:w2.heap.size≤(w4.setCell ⟨pp,4,none⟩ (.slice A4 (vs.length+r.ts.length) C4)).heap.size:=by
    have:=hg4.size
    rw [size_setCell]
    omega
   have HSZ4:=Lib.hid hsz4
   clear hto hl4 hfr4 hb4 hO4 hg4 hat4 c4 hsz4
   go_wp2
   go_roundw
   case rel=>exact ⟨k+1,A4,C4,vs ++ r.ts,by omega,by go_num,HTO.out.1,by rw [HST.out,List.map_append],HFR4.out,HL4.out,HU.out.trans HTO.out.2,HSZ4.out⟩
   case measure=>simp [intOf] <;> omega
  ·obtain rfl:k=rs.length:=by omega
   have hI:¬ ((rs.length:Nat):Int) < (rs.length:Int):=by omega
   have HPR:=Lib.hid hPr
   have hres:({ p with live:=vs.map Tb.ws }:PS)=countP p:=by
    unfold countP liveM
    rw [hvs,← HLZ.out,List.take_of_length_le (by rw [lz_len];exact Nat.le_refl _)]
   have HRES:=Lib.hid hres
   have HU:=Lib.hid hU
   clear hPr hfr hLN hU hvs hres
   go_wp2
   go_end0
   have hp:=HPR.out
   rw [HRES.out] at hp
   exact ⟨rfl,⟨_,hp⟩,HU.out⟩
end
def livesB (p:PS) (i:Int):Bool:=decide (0≤i) && decide (i < p.ts.length) && !(p.dead.getD i.toNat true) && (isConstB p.m.n (p.ts.getD i.toNat []) || decide (p.ts.getD i.toNat []∈p.live))
section
variable {w w':World} {B:Nat→Prop} {pp:Nat} {p:PS} {q:PA} {n:Nat} {t:Tb} {kp:Nat} {k:KS} {a:KA}
theorem PW.tat (h:PW B w pp p q) {i:Nat} {t:Tb} (hi:q.tt[i]?=some t):∃ b,q.tA=some ⟨b,0,none⟩∧b < w.heap.size∧w.cell? ⟨b,i * 2,none⟩=some (.int .i64 p.m.n)∧w.cell? ⟨b,i * 2+1,none⟩=some (.slice t.A t.ws.length t.C):=by
 obtain ⟨b,h1,h2,h3⟩:=h.ts.get Tb.cells_len hi
 have h4:=h3 0 (by omega)
 simp only [Tb.cells,(h.tt t (List.mem_of_getElem? hi)).N] at h4
 exact ⟨b,h1,h2,by simpa using h4,h3 1 (by omega)⟩
theorem lives_law (hP:PW B w pp p q) (hd:p.dead.length=p.ts.length) (hll:p.live.length≤2097152000000) (i:Int) :
  Calls Tryz.prog 66 #[.pointer (some ⟨pp,0,none⟩),.int .i64 i] w fun e w'=>e=.returned (.bool (livesB p i))∧Same w w':=by
 have hpl:=hP.blk.lt
 have c3:=hP.c3
 have c4:=hP.c4
 have c5:=hP.c5
 have htl:=hP.tl
 have hvl:q.vv.length≤1000000000000000000:=by rw [hP.vl];omega
 rw [htl] at c3
 have HP:=Lib.hid hP
 have HTL:=Lib.hid htl
 have HD:=Lib.hid hd
 rw [hd] at c5
 obtain ⟨RB,hRB⟩:∃ z,livesB p i=z:=⟨_,rfl⟩
 rw [hRB]
 have HRB:=Lib.hid hRB
 clear hP htl hd hll hRB
 go_enter Tryz.func66,Tryz.ntmps66
 go_upto_region 1 with fail
 refine wp_phS (fun _=>False) [([0,1,2,3,4,5,6,7,8,9,10,11,12,13,14,15,16,17,18,19,20,21,22,23,24,25,26,27,28],29),([30,31,32,33,34,35,36,37,38,39,40,41],42),([43,44],45)] (by kernel_rfl) (by kernel_rfl) ?_
 have hs:Same w w.drew:=(Frm.refl _ _).drew
 rw [wpPh_go_eq]
 simp only [pick,List.map_cons,List.map_nil,List.getD_cons_zero,List.getD_cons_succ]
 by_cases h0:i ≥ 0
 ·obtain ⟨m,rfl⟩:=Int.eq_ofNat_of_zero_le h0
  by_cases h1:(m:Int) < p.ts.length
  ·have hml:m < p.ts.length:=by omega
   have hP:=HP.out
   obtain ⟨t,ht⟩:∃ t,q.tt[m]?=some t:=⟨_,List.getElem?_eq_getElem (by rw [HTL.out];exact hml)⟩
   obtain ⟨d,hdd⟩:∃ d,p.dead[m]?=some d:=⟨_,List.getElem?_eq_getElem (by rw [HD.out];exact hml)⟩
   have hte:p.ts[m]?=some t.ws:=by rw [← hP.te,List.getElem?_map,ht];rfl
   have htw:=hP.tt t (List.mem_of_getElem? ht)
   obtain ⟨tb,htb,htbl,t0,t1⟩:=hP.tat ht
   obtain ⟨db,hdb,hdbl,d0⟩:=hP.ds.at1 (c:=fun b:Bool=>.bool b) hdd
   rw [htb] at c3
   rw [hdb] at c5
   have hic:=fun w' (hs:Same w w')=>isConst_any (htw.same hs)
   have hin:=fun w' (hs:Same w w')=>in5_any (C:=q.vC) (⟨(hP.same hs).vs.sl Tb.cells_len,(hP.same hs).vt⟩:TL w' p.m.n q.vA q.vv) (htw.same hs) hvl
   rw [hP.ve] at hin
   have hB:(!d && (isConstB p.m.n t.ws || decide (t.ws∈p.live)))=RB:=by
    rw [← HRB.out]
    unfold livesB
    rw [Int.toNat_natCast,List.getD_eq_getElem?_getD,List.getD_eq_getElem?_getD,hdd,hte]
    simp [hml]
   obtain ⟨cb,hcb⟩:∃ z,isConstB p.m.n t.ws=z:=⟨_,rfl⟩
   obtain ⟨ib,hib⟩:∃ z,decide (t.ws∈p.live)=z:=⟨_,rfl⟩
   rw [hcb] at hic hB
   rw [hib] at hin hB
   unfold Tb.val at hic hin
   rw [htw.N] at hic hin
   have HIC:=Lib.hid hic
   have HIN:=Lib.hid hin
   clear hP ht hte htw hic hin hcb hib hdd htb hdb hvl
   cases d with
   | true =>
    simp at hB
    subst hB
    repeat go_big_quiet_step (fail)
    rw [wpQuiet_nil_eq]
    rw [effStep_skip_eq]
    rotate_left
    ·rfl
    rw [wpPh_go_eq]
    simp only [pick,List.map_cons,List.map_nil,List.getD_cons_zero,List.getD_cons_succ,Act.put,List.setIfInBounds_toArray,List.set_cons_succ,List.set_cons_zero]
    repeat go_big_quiet_step (fail)
    rw [wpQuiet_nil_eq]
    rw [effStep_skip_eq]
    rotate_left
    ·rfl
    rw [wpPh_end_eq]
    simp only [pick,List.map_cons,List.map_nil,List.getD_cons_zero,List.getD_cons_succ,Act.put,List.setIfInBounds_toArray,List.set_cons_succ,List.set_cons_zero]
    repeat go_big_quiet_step (fail)
    rw [wpQuiet_nil_eq]
    go_wp2
    go_ret
    exact ⟨rfl,hs⟩
   | false =>
    repeat go_big_quiet_step (fail)
    refine wpQuiet_nil ?_
    refine effStep_on (by rfl) fun K hK=>?_
    go_simp
    refine (HIC.out _ hs).mono ?_
    rintro e w2 ⟨rfl,hs2⟩
    have hs2':=hs.trans hs2 (fun _ _ h=>h)
    refine hK _ _ (Lat.mk_ (Frm.mono hs2' (fun _ _ h=>h.elim))) ?_
    clear hK K
    have HS2:=Lib.hid hs2'
    clear hs hs2 hs2'
    rw [wpPh_go_eq]
    simp only [pick,List.map_cons,List.map_nil,List.getD_cons_zero,List.getD_cons_succ]
    cases cb with
    | true =>
     simp at hB
     subst hB
     repeat go_big_quiet_step (fail)
     rw [wpQuiet_nil_eq]
     rw [effStep_skip_eq]
     rotate_left
     ·rfl
     rw [wpPh_end_eq]
     simp only [pick,List.map_cons,List.map_nil,List.getD_cons_zero,List.getD_cons_succ,Act.put,List.setIfInBounds_toArray,List.set_cons_succ,List.set_cons_zero]
     repeat go_big_quiet_step (fail)
     rw [wpQuiet_nil_eq]
     go_wp2
     go_ret
     exact ⟨rfl,HS2.out⟩
    | false =>
     simp at hB
     subst hB
     repeat go_big_quiet_step (fail)
     refine wpQuiet_nil ?_
     refine effStep_on (by rfl) fun K hK=>?_
     go_simp
     refine (HIN.out _ HS2.out).mono ?_
     rintro e w3 ⟨rfl,hs3⟩
     have HS3:=Lib.hid (HS2.out.trans hs3 (fun _ _ h=>h))
     refine hK _ _ (Lat.mk_ (Frm.mono HS3.out (fun _ _ h=>h.elim))) ?_
     clear hK K hs3
     rw [wpPh_end_eq]
     simp only [pick,List.map_cons,List.map_nil,List.getD_cons_zero,List.getD_cons_succ]
     repeat go_big_quiet_step (fail)
     rw [wpQuiet_nil_eq]
     go_wp2
     go_ret
     exact ⟨rfl,HS3.out⟩
  ·have hB:RB=false:=by
    rw [← HRB.out]
    unfold livesB
    simp [h1]
   subst hB
   repeat go_big_quiet_step (fail)
   rw [wpQuiet_nil_eq]
   rw [effStep_skip_eq]
   rotate_left
   ·rfl
   rw [wpPh_go_eq]
   simp only [pick,List.map_cons,List.map_nil,List.getD_cons_zero,List.getD_cons_succ,Act.put,List.setIfInBounds_toArray,List.set_cons_succ,List.set_cons_zero]
   repeat go_big_quiet_step (fail)
   rw [wpQuiet_nil_eq]
   rw [effStep_skip_eq]
   rotate_left
   ·rfl
   rw [wpPh_end_eq]
   simp only [pick,List.map_cons,List.map_nil,List.getD_cons_zero,List.getD_cons_succ,Act.put,List.setIfInBounds_toArray,List.set_cons_succ,List.set_cons_zero]
   repeat go_big_quiet_step (fail)
   rw [wpQuiet_nil_eq]
   go_wp2
   go_ret
   exact ⟨rfl,hs⟩
 ·have hB:RB=false:=by
   rw [← HRB.out]
   unfold livesB
   simp [h0]
  subst hB
  repeat go_big_quiet_step (fail)
  rw [wpQuiet_nil_eq]
  rw [effStep_skip_eq]
  rotate_left
  ·rfl
  rw [wpPh_go_eq]
  simp only [pick,List.map_cons,List.map_nil,List.getD_cons_zero,List.getD_cons_succ,Act.put,List.setIfInBounds_toArray,List.set_cons_succ,List.set_cons_zero]
  repeat go_big_quiet_step (fail)
  rw [wpQuiet_nil_eq]
  rw [effStep_skip_eq]
  rotate_left
  ·rfl
  rw [wpPh_end_eq]
  simp only [pick,List.map_cons,List.map_nil,List.getD_cons_zero,List.getD_cons_succ,Act.put,List.setIfInBounds_toArray,List.set_cons_succ,List.set_cons_zero]
  repeat go_big_quiet_step (fail)
  rw [wpQuiet_nil_eq]
  go_wp2
  go_ret
  exact ⟨rfl,hs⟩
end
section
variable {w w':World} {B:Nat→Prop} {pp:Nat} {p:PS} {q:PA} {n:Nat} {t:Tb} {kp:Nat} {k:KS} {a:KA}
theorem PW.refs_to {A2:Option Addr} {C2:Nat} {rs:List Int} (h:PW B w pp p q) (hf:Frm (fun b=>b=pp∨rowOf q.rA b) w w') (hb:Blk w' pp 58 (pcells { p with refs:=rs } { q with rA:=A2,rC:=C2 }))
  (ho:Row1 w' 28 rc A2 rs.length C2 rs) (hn:∀ b,rowOf A2 b→rowOf q.rA b∨w.heap.size≤b) (hB:∀ b,B b→b < w.heap.size) :
  PW B w' pp { p with refs:=rs } { q with rA:=A2,rC:=C2 }∧Up B w w':=by
 have hS:∀ b,(b=pp∨rowOf q.rA b)→LFp pp q b:=fun b hb=>hb.elim .inl (fun h=>.inr (.inl h))
 have tk:∀ t,TW w p.m.n t→TW w' p.m.n t:=fun t ht=>ht.frmT hf h.blk (by decide) h.refs (by decide) (fun _ h=>h)
 have hM:∀ b,MFp q.mp q.b b→¬ (b=pp∨rowOf q.rA b):=by
  rintro b hm (hb | hb)
  ·subst hb
   rcases hm with hm | ⟨x,hx,hm⟩ | ⟨x,hx,hm⟩ | ⟨x,hx,hm⟩
   ·have:=h.blk
    rw [hm] at this
    exact absurd (Blk.inj this h.m.blk).1 (by decide)
   ·exact h.m.ord.ne_blk h.blk (by decide) x hx hm
   ·exact h.m.hs.ne_blk h.blk (by decide) x hx hm
   ·exact h.m.tr.ne_blk h.blk (by decide) x hx hm
  ·exact h.m.ne_own h.refs (by decide) (by decide) (by decide) b hb hm
 refine ⟨⟨hb,h.k.frm hf (fun b hk hs=>h.kl b (hS b hs) hk),h.m.frm hf hM (fun r hr b hrb hs=>?_),ho,h.ts.frm hf (by
   rintro x hx (hs | hs)
   ·exact h.ts.ne_blk h.blk (by decide) x hx hs
   ·exact h.ts.ne_own h.refs (by decide) _ ⟨x,hx,rfl⟩ hs),fun t ht=>tk t (h.tt t ht),h.te,h.vs.frm hf (by
   rintro x hx (hs | hs)
   ·exact h.vs.ne_blk h.blk (by decide) x hx hs
   ·exact h.vs.ne_own h.refs (by decide) _ ⟨x,hx,rfl⟩ hs),fun t ht=>tk t (h.vt t ht),h.ve,h.ds.frm hf (by
   rintro x hx (hs | hs)
   ·exact h.ds.ne_blk h.blk (by decide) x hx hs
   ·exact h.ds.ne_own h.refs (by decide) _ ⟨x,hx,rfl⟩ hs),?_,?_,?_⟩,hf.mono (fun b _ hb=>h.base b (.inr (hS b hb)))⟩
 ·obtain ⟨x,hx,rfl⟩:=hrb
  rcases hs with hs | hs
  ·exact (h.m.tw r hr).own.ne_blk h.blk (by decide) x hx hs
  ·exact (h.m.tw r hr).own.ne_own h.refs (by decide) _ ⟨x,hx,rfl⟩ hs
 ·rintro b (hb | hb | hb | hb | hb | hb) hk
  ·exact h.kl b ((.inl hb)) hk
  ·rcases hn b hb with h1 | h1
   ·exact h.kl b (.inr (.inl h1)) hk
   ·have:=h.k.lt hk
    omega
  ·exact h.kl b (.inr (.inr (.inl hb))) hk
  ·exact h.kl b (.inr (.inr (.inr (.inl hb)))) hk
  ·exact h.kl b (.inr (.inr (.inr (.inr (.inl hb))))) hk
  ·exact h.kl b (.inr (.inr (.inr (.inr (.inr (hb)))))) hk
 ·exact h.tv
 ·rintro b (hb | hb | hb | hb | hb | hb | hb)
  ·exact h.base b (.inl hb)
  ·exact h.base b (.inr ((.inl hb)))
  ·rcases hn b hb with h1 | h1
   ·exact h.base b (.inr (.inr (.inl h1)))
   ·exact fun hx=>by have:=hB b hx;omega
  ·exact h.base b (.inr (.inr (.inr (.inl hb))))
  ·exact h.base b (.inr (.inr (.inr (.inr (.inl hb)))))
  ·exact h.base b (.inr (.inr (.inr (.inr (.inr (.inl hb))))))
  ·exact h.base b (.inr (.inr (.inr (.inr (.inr (.inr (hb)))))))
theorem PW.ts_to {A2:Option Addr} {C2:Nat} {us:List Tb} (h:PW B w pp p q) (hf:Frm (fun b=>b=pp∨rowOf q.tA b) w w') (hb:Blk w' pp 58 (pcells { p with ts:=us.map Tb.ws } { q with tA:=A2,tC:=C2,tt:=us }))
  (ho:Go.Tk.Own w' 108 2 Tb.cells A2 us.length C2 us) (ht:∀ t∈us,TW w p.m.n t) (hn:∀ b,rowOf A2 b→rowOf q.tA b∨w.heap.size≤b) (hB:∀ b,B b→b < w.heap.size) :
  PW B w' pp { p with ts:=us.map Tb.ws } { q with tA:=A2,tC:=C2,tt:=us }∧Up B w w':=by
 have hS:∀ b,(b=pp∨rowOf q.tA b)→LFp pp q b:=fun b hb=>hb.elim .inl (fun h=>.inr (.inr (.inl h)))
 have tk:∀ t,TW w p.m.n t→TW w' p.m.n t:=fun t ht=>ht.frmT hf h.blk (by decide) h.ts (by decide) (fun _ h=>h)
 have hM:∀ b,MFp q.mp q.b b→¬ (b=pp∨rowOf q.tA b):=by
  rintro b hm (hb | hb)
  ·subst hb
   rcases hm with hm | ⟨x,hx,hm⟩ | ⟨x,hx,hm⟩ | ⟨x,hx,hm⟩
   ·have:=h.blk
    rw [hm] at this
    exact absurd (Blk.inj this h.m.blk).1 (by decide)
   ·exact h.m.ord.ne_blk h.blk (by decide) x hx hm
   ·exact h.m.hs.ne_blk h.blk (by decide) x hx hm
   ·exact h.m.tr.ne_blk h.blk (by decide) x hx hm
  ·exact h.m.ne_own h.ts (by decide) (by decide) (by decide) b hb hm
 refine ⟨⟨hb,h.k.frm hf (fun b hk hs=>h.kl b (hS b hs) hk),h.m.frm hf hM (fun r hr b hrb hs=>?_),h.refs.frm hf (by
   rintro x hx (hs | hs)
   ·exact h.refs.ne_blk h.blk (by decide) x hx hs
   ·exact h.refs.ne_own h.ts (by decide) _ ⟨x,hx,rfl⟩ hs),ho,fun t hm=>tk t (ht t hm),rfl,h.vs.frm hf (by
   rintro x hx (hs | hs)
   ·exact h.vs.ne_blk h.blk (by decide) x hx hs
   ·exact h.tv _ hs ⟨x,hx,rfl⟩),fun t ht=>tk t (h.vt t ht),h.ve,h.ds.frm hf (by
   rintro x hx (hs | hs)
   ·exact h.ds.ne_blk h.blk (by decide) x hx hs
   ·exact h.ds.ne_own h.ts (by decide) _ ⟨x,hx,rfl⟩ hs),?_,?_,?_⟩,hf.mono (fun b _ hb=>h.base b (.inr (hS b hb)))⟩
 ·obtain ⟨x,hx,rfl⟩:=hrb
  rcases hs with hs | hs
  ·exact (h.m.tw r hr).own.ne_blk h.blk (by decide) x hx hs
  ·exact (h.m.tw r hr).own.ne_own h.ts (by decide) _ ⟨x,hx,rfl⟩ hs
 ·rintro b (hb | hb | hb | hb | hb | hb) hk
  ·exact h.kl b ((.inl hb)) hk
  ·exact h.kl b (.inr (.inl hb)) hk
  ·rcases hn b hb with h1 | h1
   ·exact h.kl b (.inr (.inr (.inl h1))) hk
   ·have:=h.k.lt hk
    omega
  ·exact h.kl b (.inr (.inr (.inr (.inl hb)))) hk
  ·exact h.kl b (.inr (.inr (.inr (.inr (.inl hb))))) hk
  ·exact h.kl b (.inr (.inr (.inr (.inr (.inr (hb)))))) hk
 ·intro b hb hv
  rcases hn b hb with h1 | h1
  ·exact h.tv b h1 hv
  ·have:=row_lt h.vs hv
   omega
 ·rintro b (hb | hb | hb | hb | hb | hb | hb)
  ·exact h.base b (.inl hb)
  ·exact h.base b (.inr ((.inl hb)))
  ·exact h.base b (.inr (.inr (.inl hb)))
  ·rcases hn b hb with h1 | h1
   ·exact h.base b (.inr (.inr (.inr (.inl h1))))
   ·exact fun hx=>by have:=hB b hx;omega
  ·exact h.base b (.inr (.inr (.inr (.inr (.inl hb)))))
  ·exact h.base b (.inr (.inr (.inr (.inr (.inr (.inl hb))))))
  ·exact h.base b (.inr (.inr (.inr (.inr (.inr (.inr (hb)))))))
theorem PW.ds_to {A2:Option Addr} {C2:Nat} {ds:List Bool} (h:PW B w pp p q) (hf:Frm (fun b=>b=pp∨rowOf q.dA b) w w') (hb:Blk w' pp 58 (pcells { p with dead:=ds } { q with dA:=A2,dC:=C2 }))
  (ho:OwnB w' A2 ds.length C2 ds) (hn:∀ b,rowOf A2 b→rowOf q.dA b∨w.heap.size≤b) (hB:∀ b,B b→b < w.heap.size) :
  PW B w' pp { p with dead:=ds } { q with dA:=A2,dC:=C2 }∧Up B w w':=by
 have hS:∀ b,(b=pp∨rowOf q.dA b)→LFp pp q b:=fun b hb=>hb.elim .inl (fun h=>.inr (.inr (.inr (.inr (.inl h)))))
 have tk:∀ t,TW w p.m.n t→TW w' p.m.n t:=fun t ht=>ht.frmT hf h.blk (by decide) h.ds (by decide) (fun _ h=>h)
 have hM:∀ b,MFp q.mp q.b b→¬ (b=pp∨rowOf q.dA b):=by
  rintro b hm (hb | hb)
  ·subst hb
   rcases hm with hm | ⟨x,hx,hm⟩ | ⟨x,hx,hm⟩ | ⟨x,hx,hm⟩
   ·have:=h.blk
    rw [hm] at this
    exact absurd (Blk.inj this h.m.blk).1 (by decide)
   ·exact h.m.ord.ne_blk h.blk (by decide) x hx hm
   ·exact h.m.hs.ne_blk h.blk (by decide) x hx hm
   ·exact h.m.tr.ne_blk h.blk (by decide) x hx hm
  ·exact h.m.ne_own h.ds (by decide) (by decide) (by decide) b hb hm
 refine ⟨⟨hb,h.k.frm hf (fun b hk hs=>h.kl b (hS b hs) hk),h.m.frm hf hM (fun r hr b hrb hs=>?_),h.refs.frm hf (by
   rintro x hx (hs | hs)
   ·exact h.refs.ne_blk h.blk (by decide) x hx hs
   ·exact h.refs.ne_own h.ds (by decide) _ ⟨x,hx,rfl⟩ hs),h.ts.frm hf (by
   rintro x hx (hs | hs)
   ·exact h.ts.ne_blk h.blk (by decide) x hx hs
   ·exact h.ts.ne_own h.ds (by decide) _ ⟨x,hx,rfl⟩ hs),fun t ht=>tk t (h.tt t ht),h.te,h.vs.frm hf (by
   rintro x hx (hs | hs)
   ·exact h.vs.ne_blk h.blk (by decide) x hx hs
   ·exact h.vs.ne_own h.ds (by decide) _ ⟨x,hx,rfl⟩ hs),fun t ht=>tk t (h.vt t ht),h.ve,ho,?_,?_,?_⟩,hf.mono (fun b _ hb=>h.base b (.inr (hS b hb)))⟩
 ·obtain ⟨x,hx,rfl⟩:=hrb
  rcases hs with hs | hs
  ·exact (h.m.tw r hr).own.ne_blk h.blk (by decide) x hx hs
  ·exact (h.m.tw r hr).own.ne_own h.ds (by decide) _ ⟨x,hx,rfl⟩ hs
 ·rintro b (hb | hb | hb | hb | hb | hb) hk
  ·exact h.kl b ((.inl hb)) hk
  ·exact h.kl b (.inr (.inl hb)) hk
  ·exact h.kl b (.inr (.inr (.inl hb))) hk
  ·exact h.kl b (.inr (.inr (.inr (.inl hb)))) hk
  ·rcases hn b hb with h1 | h1
   ·exact h.kl b (.inr (.inr (.inr (.inr (.inl h1))))) hk
   ·have:=h.k.lt hk
    omega
  ·exact h.kl b (.inr (.inr (.inr (.inr (.inr (hb)))))) hk
 ·exact h.tv
 ·rintro b (hb | hb | hb | hb | hb | hb | hb)
  ·exact h.base b (.inl hb)
  ·exact h.base b (.inr ((.inl hb)))
  ·exact h.base b (.inr (.inr (.inl hb)))
  ·exact h.base b (.inr (.inr (.inr (.inl hb))))
  ·exact h.base b (.inr (.inr (.inr (.inr (.inl hb)))))
  ·rcases hn b hb with h1 | h1
   ·exact h.base b (.inr (.inr (.inr (.inr (.inr (.inl h1))))))
   ·exact fun hx=>by have:=hB b hx;omega
  ·exact h.base b (.inr (.inr (.inr (.inr (.inr (.inr (hb)))))))
end
def aboveB (M:MS) (v:Int) (z:List Nat):Bool:=decide (topL M.n M.ord z < 0) || decide (levelL M.ord v < levelL M.ord (topL M.n M.ord z))
def makeM (M:MS) (v:Int) (lo hi:List Nat):MS × List Nat × Int :=
 if v < 0∨(M.n:Int)≤v then (M,[],2)
 else if !(isLiveB M lo && isLiveB M hi) then (M,[],3)
 else if !decide (lo=hi) && !(aboveB M v lo && aboveB M v hi) then (M,[],4)
 else ((answerM M (ifT M.n v.toNat lo hi)).1,ansL (ifT M.n v.toNat lo hi) (answerM M (ifT M.n v.toNat lo hi)).2,(answerM M (ifT M.n v.toNat lo hi)).2)
theorem ifT_form {w:World} {n v:Nat} {lo hi:List Nat} {A:Option Addr} {C:Nat} (hn:n≤16) (h:OwnW w A (ifT n v lo hi).length C (ifT n v lo hi)):TW w n ⟨n,A,C,ifT n v lo hi⟩:=⟨rfl,h,tab_form hn,fun x hx=>tab_lt x hx⟩
section
variable {w w':World} {mp:Nat} {M:MS} {a:MA} {n:Nat} {lo hi:Tb}
theorem MW.apartSet (h:MW w mp M a) {g:Nat} {cs:Array Value} (hb:Blk w g 108 cs) {u v:Value}:MW ((w.setCell ⟨g,0,none⟩ u).setCell ⟨g,1,none⟩ v) mp M a:=by
 refine h.frm (S:=fun b=>b=g) (((Frm.refl (fun b=>b=g) w).set 0 u rfl).set 1 v rfl) ?_ ?_
 ·rintro b (hk | hk | hk | hk) rfl
  ·subst hk
   exact absurd (Blk.inj h.blk hb).1 (by decide)
  ·obtain ⟨x,hx,hxb⟩:=hk
   exact h.ord.ne_blk hb (by decide) x hx hxb
  ·obtain ⟨x,hx,hxb⟩:=hk
   exact h.hs.ne_blk hb (by decide) x hx hxb
  ·obtain ⟨x,hx,hxb⟩:=hk
   exact h.tr.ne_blk hb (by decide) x hx hxb
 ·rintro q hq b ⟨x,hx,hxb⟩ rfl
  exact (h.tw q hq).own.ne_blk hb (by decide) x hx hxb
end
section
variable {w w':World} {mp:Nat} {M:MS} {a:MA} {n:Nat} {lo hi:Tb}
def RetM (w:World) (mp:Nat) (M:MS) (a:MA) (R:MS × List Nat × Int) (e:Ending) (w':World):Prop :=
 ∃ A C,e=.returned (.tuple #[.agg #[.int .i64 (ansN M.n R.2.2),.slice A R.2.1.length C],.int .i64 R.2.2])∧OwnW w' A R.2.1.length C R.2.1∧Fresh w.heap.size A∧∃ a',MW w' mp R.1 a'∧MGo mp w a w' a'
theorem docMake9_any (hM:MW w mp M a) (ho:OrdOk M) (v:Int) (hlo:TW w M.n lo) (hhi:TW w M.n hi) (hc:HcOk M) (hl:M.held.length < 1500000) :
  Calls Tryz.prog 105 #[.pointer (some ⟨mp,0,none⟩),.int .i64 v,lo.val,hi.val] w (RetM w mp M a (makeM M v lo.ws hi.ws)):=by
 have HM:=Lib.hid hM
 have HO:=Lib.hid ho
 have hn16:=hM.n16
 obtain ⟨la,hla⟩:∃ z,isLiveB M lo.ws=z:=⟨_,rfl⟩
 obtain ⟨lb,hlb⟩:∃ z,isLiveB M hi.ws=z:=⟨_,rfl⟩
 obtain ⟨ua,hua⟩:∃ z,aboveB M v lo.ws=z:=⟨_,rfl⟩
 obtain ⟨ub,hub⟩:∃ z,aboveB M v hi.ws=z:=⟨_,rfl⟩
 obtain ⟨sb,hsb⟩:∃ z,decide (lo.ws=hi.ws)=z:=⟨_,rfl⟩
 have hil:=fun w' (hs:Same w w')=>isLive_any (hM.same hs) ho (hlo.same hs)
 have hih:=fun w' (hs:Same w w')=>isLive_any (hM.same hs) ho (hhi.same hs)
 have hal:=fun w' (hs:Same w w')=>above_any (hM.same hs) ho v (hlo.same hs)
 have hah:=fun w' (hs:Same w w')=>above_any (hM.same hs) ho v (hhi.same hs)
 have hsm:=fun w' (hs:Same w w')=>tsame_any lo.N lo.A lo.ws.length lo.C lo.ws hi.N hi.A hi.ws.length hi.C hi.ws w' (hlo.same hs).ok.wl (hhi.same hs).ok.wl (by rw [hlo.fm.len];have:=nw_le hlo.fm.n16;omega)
 have hse:sm lo.N hi.N lo.ws hi.ws=sb:=by
  unfold sm
  rw [hlo.N,hhi.N,← hsb]
  simp
 obtain ⟨R,hR⟩:∃ z,makeM M v lo.ws hi.ws=z:=⟨_,rfl⟩
 rw [hR]
 unfold makeM at hR
 change ∀ w',Same w w'→Calls _ _ _ _ (fun e w''=>e=.returned (.bool (aboveB M v lo.ws))∧Same w' w'') at hal
 change ∀ w',Same w w'→Calls _ _ _ _ (fun e w''=>e=.returned (.bool (aboveB M v hi.ws))∧Same w' w'') at hah
 rw [hla,hlb,hua,hub,hsb] at hR
 rw [hla] at hil
 rw [hlb] at hih
 rw [hua] at hal
 rw [hub] at hah
 simp only [hse] at hsm
 have hif:=fun (m:Nat) (hm:m < M.n) w' (hs:Same w w')=>if9_any m hm (hlo.same hs) (hhi.same hs)
 unfold Tb.val at hil hih hal hah hif ⊢
 have hN1:=hlo.N
 have hN2:=hhi.N
 rw [hN1] at hil hal hif hsm ⊢
 rw [hN2] at hih hah hif hsm ⊢
 have HIL:=Lib.hid hil
 have HIH:=Lib.hid hih
 have HAL:=Lib.hid hal
 have HAH:=Lib.hid hah
 have HSM:=Lib.hid hsm
 have HIF:=Lib.hid hif
 have hans:=fun (m:Nat) w' (A:Option Addr) (C:Nat) (hs:Same w w') (ht:TW w' M.n ⟨M.n,A,C,ifT M.n m lo.ws hi.ws⟩)=>answer_any (hM.same hs) ho ht hc hl
 unfold Tb.val at hans
 simp only at hans
 have HANS:=Lib.hid hans
 have HR:=Lib.hid hR
 have HC:=Lib.hid hc
 have HL:=Lib.hid hl
 have hmp:=hM.blk.lt
 have c0:=hM.c0
 clear hM ho hlo hhi hc hl hil hih hal hah hsm hif hans hR hla hlb hua hub hsb hse hN1 hN2
 go_enter Tryz.func105,Tryz.ntmps105
 go_upto_region 1 with fail
 refine wp_world fun w1 hw1=>?_
 have hs1:Same w w1:=by rw [hw1];exact (((Frm.refl _ _).alloc _).alloc _).alloc _
 have hB1:Blk w1 w.heap.size 108 #[.int .i64 M.n,.slice lo.A lo.ws.length lo.C]:=by
  rw [hw1]
  exact (((Blk.new w 108 #[.int .i64 M.n,.slice lo.A lo.ws.length lo.C]).alloc _).alloc _)
 have hB2:Blk w1 (w.heap.size+1) 108 #[.int .i64 M.n,.slice hi.A hi.ws.length hi.C]:=by
  rw [hw1]
  have:=((Blk.new (w.alloc (.cells #[.int .i64 M.n,.slice lo.A lo.ws.length lo.C] 108)) 108 #[.int .i64 M.n,.slice hi.A hi.ws.length hi.C]).alloc (.cells #[.int .i64 0,.slice none 0 0] 108))
  simpa using this
 have hBR:Blk w1 (w.heap.size+1+1) 108 #[.int .i64 0,.slice none 0 0]:=by
  rw [hw1]
  have:=Blk.new ((w.alloc (.cells #[.int .i64 M.n,.slice lo.A lo.ws.length lo.C] 108)).alloc (.cells #[.int .i64 M.n,.slice hi.A hi.ws.length hi.C] 108)) 108 #[.int .i64 0,.slice none 0 0]
  simpa using this
 obtain ⟨T1,hT1⟩:∃ z,z=w.heap.size:=⟨_,rfl⟩
 obtain ⟨T2,hT2⟩:∃ z,z=w.heap.size+1:=⟨_,rfl⟩
 obtain ⟨R8,hR8⟩:∃ z,z=w.heap.size+1+1:=⟨_,rfl⟩
 have hwR:w.heap.size≤R8:=by omega
 have hw1':w.heap.size≤T1:=by omega
 have hw2':w.heap.size≤T2:=by omega
 have hm1:mp < w.heap.size:=hmp
 have hR1:T1+1=T2:=by omega
 have hR2:T2+1=R8:=by omega
 have hn1:T1≠R8:=by omega
 have hn2:T2≠R8:=by omega
 simp only [← hT1,hR1,hR2] at hB1 hB2 hBR
 simp only [← hT1,hR1,hR2]
 have HS:=Lib.hid hs1
 have HB1:=Lib.hid hB1
 have HB2:=Lib.hid hB2
 have HBR:=Lib.hid hBR
 clear hw1 hs1 hB1 hB2 hBR hT1 hT2 hR8 hR1 hR2 c0 hmp
 have x0:=HB1.out.cell 0
 have x1:=HB1.out.cell 1
 have xl:=HB1.out.lt
 have y0:=HB2.out.cell 0
 have y1:=HB2.out.cell 1
 have yl:=HB2.out.lt
 have r0:=HBR.out.cell 0
 have r1:=HBR.out.cell 1
 have rl:=HBR.out.lt
 have g0:=HBR.out.free 0
 have g1:=HBR.out.free 1
 have c0:=(HM.out.same HS.out).c0
 have hmp:=(HM.out.same HS.out).blk.lt
 simp at x0 x1 y0 y1 r0 r1
 by_cases hv:v < 0
 ·have hR:=HR.out
  rw [if_pos (.inl hv)] at hR
  subst hR
  go_wp2
  refine wp_post fun we hwe=>?_
  have hBE:Blk we R8 108 #[.int .i64 0,.slice none 0 0]:=by
   rw [hwe]
   have:=(HBR.out.set 0 (.int .i64 0)).set 1 (.slice none 0 0)
   simpa using this
  have hSE:Same w we:=by rw [hwe];exact (HS.out.setNew 0 _ hwR).setNew 1 _ hwR
  have hr0:=hBE.cell 0
  have hr1:=hBE.cell 1
  simp at hr0 hr1
  clear hwe hBE
  refine bodyPost_ret (v:=.tuple #[.agg #[.int .i64 0,.slice none 0 0],.int .i64 2]) (by simp [results,Tryz.results105,go_sem,hr0,hr1]) rfl ?_
  exact ⟨none,0,rfl,Own.nil _ _ _ _,fresh_none _,a,HM.out.same hSE,MGo.same hSE⟩
 by_cases hv2:v ≥ (M.n:Int)
 ·have hR:=HR.out
  rw [if_pos (.inr hv2)] at hR
  subst hR
  go_wp2
  refine wp_post fun we hwe=>?_
  have hBE:Blk we R8 108 #[.int .i64 0,.slice none 0 0]:=by
   rw [hwe]
   have:=(HBR.out.set 0 (.int .i64 0)).set 1 (.slice none 0 0)
   simpa using this
  have hSE:Same w we:=by rw [hwe];exact (HS.out.setNew 0 _ hwR).setNew 1 _ hwR
  have hr0:=hBE.cell 0
  have hr1:=hBE.cell 1
  simp at hr0 hr1
  clear hwe hBE
  refine bodyPost_ret (v:=.tuple #[.agg #[.int .i64 0,.slice none 0 0],.int .i64 2]) (by simp [results,Tryz.results105,go_sem,hr0,hr1]) rfl ?_
  exact ⟨none,0,rfl,Own.nil _ _ _ _,fresh_none _,a,HM.out.same hSE,MGo.same hSE⟩
 have hR:=HR.out
 rw [if_neg (by omega)] at hR
 replace HR:=Lib.hid hR
 clear hR
 go_wp2_with (fail)
 refine (HIL.out _ HS.out).mono ?_
 rintro e w2 ⟨rfl,hs2⟩
 replace HB1:=Lib.hid (HB1.out.frm hs2 id)
 replace HB2:=Lib.hid (HB2.out.frm hs2 id)
 replace HBR:=Lib.hid (HBR.out.frm hs2 id)
 replace HS:=Lib.hid (HS.out.trans hs2 (fun _ _ h=>h))
 clear x0 x1 xl y0 y1 yl r0 r1 rl g0 g1 c0 hmp
 clear hs2
 have x0:=HB1.out.cell 0
 have x1:=HB1.out.cell 1
 have xl:=HB1.out.lt
 have y0:=HB2.out.cell 0
 have y1:=HB2.out.cell 1
 have yl:=HB2.out.lt
 have r0:=HBR.out.cell 0
 have r1:=HBR.out.cell 1
 have rl:=HBR.out.lt
 have g0:=HBR.out.free 0
 have g1:=HBR.out.free 1
 have c0:=(HM.out.same HS.out).c0
 have hmp:=(HM.out.same HS.out).blk.lt
 simp at x0 x1 y0 y1 r0 r1
 cases la with
 | false =>
  have hR:=HR.out
  rw [if_pos (by simp)] at hR
  subst hR
  go_wp2
  refine wp_post fun we hwe=>?_
  have hBE:Blk we R8 108 #[.int .i64 0,.slice none 0 0]:=by
   rw [hwe]
   have:=(HBR.out.set 0 (.int .i64 0)).set 1 (.slice none 0 0)
   simpa using this
  have hSE:Same w we:=by rw [hwe];exact (HS.out.setNew 0 _ hwR).setNew 1 _ hwR
  have hr0:=hBE.cell 0
  have hr1:=hBE.cell 1
  simp at hr0 hr1
  clear hwe hBE
  refine bodyPost_ret (v:=.tuple #[.agg #[.int .i64 0,.slice none 0 0],.int .i64 3]) (by simp [results,Tryz.results105,go_sem,hr0,hr1]) rfl ?_
  exact ⟨none,0,rfl,Own.nil _ _ _ _,fresh_none _,a,HM.out.same hSE,MGo.same hSE⟩
 | true =>
  go_wp2_with (fail)
  refine (HIH.out _ HS.out).mono ?_
  rintro e w3 ⟨rfl,hs3⟩
  replace HB1:=Lib.hid (HB1.out.frm hs3 id)
  replace HB2:=Lib.hid (HB2.out.frm hs3 id)
  replace HBR:=Lib.hid (HBR.out.frm hs3 id)
  replace HS:=Lib.hid (HS.out.trans hs3 (fun _ _ h=>h))
  clear x0 x1 xl y0 y1 yl r0 r1 rl g0 g1 c0 hmp
  clear hs3
  have x0:=HB1.out.cell 0
  have x1:=HB1.out.cell 1
  have xl:=HB1.out.lt
  have y0:=HB2.out.cell 0
  have y1:=HB2.out.cell 1
  have yl:=HB2.out.lt
  have r0:=HBR.out.cell 0
  have r1:=HBR.out.cell 1
  have rl:=HBR.out.lt
  have g0:=HBR.out.free 0
  have g1:=HBR.out.free 1
  have c0:=(HM.out.same HS.out).c0
  have hmp:=(HM.out.same HS.out).blk.lt
  simp at x0 x1 y0 y1 r0 r1
  cases lb with
  | false =>
   have hR:=HR.out
   rw [if_pos (by simp)] at hR
   subst hR
   go_wp2
   refine wp_post fun we hwe=>?_
   have hBE:Blk we R8 108 #[.int .i64 0,.slice none 0 0]:=by
    rw [hwe]
    have:=(HBR.out.set 0 (.int .i64 0)).set 1 (.slice none 0 0)
    simpa using this
   have hSE:Same w we:=by rw [hwe];exact (HS.out.setNew 0 _ hwR).setNew 1 _ hwR
   have hr0:=hBE.cell 0
   have hr1:=hBE.cell 1
   simp at hr0 hr1
   clear hwe hBE
   refine bodyPost_ret (v:=.tuple #[.agg #[.int .i64 0,.slice none 0 0],.int .i64 3]) (by simp [results,Tryz.results105,go_sem,hr0,hr1]) rfl ?_
   exact ⟨none,0,rfl,Own.nil _ _ _ _,fresh_none _,a,HM.out.same hSE,MGo.same hSE⟩
  | true =>
   have hR:=HR.out
   rw [if_neg (by simp)] at hR
   replace HR:=Lib.hid hR
   clear hR
   go_wp2_with (fail)
   refine (HSM.out _ HS.out).mono ?_
   rintro e w4 ⟨rfl,hs4⟩
   replace HB1:=Lib.hid (HB1.out.frm hs4 id)
   replace HB2:=Lib.hid (HB2.out.frm hs4 id)
   replace HBR:=Lib.hid (HBR.out.frm hs4 id)
   replace HS:=Lib.hid (HS.out.trans hs4 (fun _ _ h=>h))
   clear x0 x1 xl y0 y1 yl r0 r1 rl g0 g1 c0 hmp
   clear hs4
   have x0:=HB1.out.cell 0
   have x1:=HB1.out.cell 1
   have xl:=HB1.out.lt
   have y0:=HB2.out.cell 0
   have y1:=HB2.out.cell 1
   have yl:=HB2.out.lt
   have r0:=HBR.out.cell 0
   have r1:=HBR.out.cell 1
   have rl:=HBR.out.lt
   have g0:=HBR.out.free 0
   have g1:=HBR.out.free 1
   have c0:=(HM.out.same HS.out).c0
   have hmp:=(HM.out.same HS.out).blk.lt
   simp at x0 x1 y0 y1 r0 r1
   have hR4:=HR.out
   clear HIL HIH HSM
   obtain ⟨m,rfl⟩:=Int.eq_ofNat_of_zero_le (show 0≤v by omega)
   have hvm:m < M.n:=by omega
   simp only [Int.toNat_natCast] at hR4
   cases sb with
   | true =>
    rw [if_neg (by simp)] at hR4
    replace HR:=Lib.hid hR4
    clear hR4
    go_wp2_with (fail)
    refine (HIF.out m hvm _ HS.out).mono ?_
    rintro e w5 ⟨A5,C5,rfl,hN5⟩
    have hs5:=hN5.2.2
    have hO5:=hN5.1
    have hF5:Fresh w.heap.size A5:=fun b hb=>Nat.le_trans HS.out.size (hN5.2.1 b hb)
    have HF5:=Lib.hid hF5
    have HO5:=Lib.hid hO5
    clear hN5 hO5 hF5
    replace HB1:=Lib.hid (HB1.out.frm hs5 id)
    replace HB2:=Lib.hid (HB2.out.frm hs5 id)
    replace HBR:=Lib.hid (HBR.out.frm hs5 id)
    replace HS:=Lib.hid (HS.out.trans hs5 (fun _ _ h=>h))
    clear x0 x1 xl y0 y1 yl r0 r1 rl g0 g1
    clear hs5
    have x0:=HB1.out.cell 0
    have x1:=HB1.out.cell 1
    have xl:=HB1.out.lt
    have y0:=HB2.out.cell 0
    have y1:=HB2.out.cell 1
    have yl:=HB2.out.lt
    have r0:=HBR.out.cell 0
    have r1:=HBR.out.cell 1
    have rl:=HBR.out.lt
    have g0:=HBR.out.free 0
    have g1:=HBR.out.free 1
    simp at x0 x1 y0 y1 r0 r1
    go_wp2_with (fail)
    have htw5:TW (w5.alloc (.cells #[.int .i64 M.n,.slice A5 (ifT M.n m lo.ws hi.ws).length C5] 108)) M.n ⟨M.n,A5,C5,ifT M.n m lo.ws hi.ws⟩:=(ifT_form hn16 HO5.out).same ((Frm.refl _ _).alloc _)
    have hs6:Same w (w5.alloc (.cells #[.int .i64 M.n,.slice A5 (ifT M.n m lo.ws hi.ws).length C5] 108)):=HS.out.alloc _
    have hBT:=Blk.new w5 108 #[.int .i64 M.n,.slice A5 (ifT M.n m lo.ws hi.ws).length C5]
    replace HBR:=Lib.hid (HBR.out.alloc (.cells #[.int .i64 M.n,.slice A5 (ifT M.n m lo.ws hi.ws).length C5] 108))
    have hT5:w.heap.size≤w5.heap.size:=HS.out.size
    have hT5R:w5.heap.size≠R8:=by omega
    generalize (w5.alloc (.cells #[.int .i64 M.n,.slice A5 (ifT M.n m lo.ws hi.ws).length C5] 108))=w6 at htw5 hs6 hBT HBR ⊢
    refine (HANS.out m w6 A5 C5 hs6 htw5).mono ?_
    rintro e w7 ⟨rfl,a7,hM7,hg7⟩
    have hnm:∀ g,w.heap.size≤g→¬ MFp mp a g:=fun g hg hk=>by
     have:=HM.out.lt hk
     omega
    have hBT7:=hBT.frm hg7.frm (hnm _ hT5)
    replace HBR:=Lib.hid (HBR.out.frm hg7.frm (hnm _ hwR))
    have hO7:=(htw5.frmM (HM.out.same hs6) hg7.frm (fun _ h=>h)).own
    clear x0 x1 xl y0 y1 yl r0 r1 rl g0 g1
    have r0:=HBR.out.cell 0
    have r1:=HBR.out.cell 1
    have rl:=HBR.out.lt
    have g0:=HBR.out.free 0
    have g1:=HBR.out.free 1
    have t0:=hBT7.cell 0
    have t1:=hBT7.cell 1
    have tl:=hBT7.lt
    simp at r0 r1 t0 t1
    have HG7:=Lib.hid ((MGo.same hs6).trans hg7)
    have HM7:=Lib.hid hM7
    have HO7:=Lib.hid hO7
    clear hBT hBT7 hM7 hg7 hO7 htw5 hs6 hnm
    obtain ⟨z,hz⟩:∃ z,ifT M.n m lo.ws hi.ws=z:=⟨_,rfl⟩
    rw [hz] at HM7 HR t1 HO7 ⊢
    clear hz HANS HO5
    obtain ⟨⟨N7,E7⟩,hE7⟩:∃ q,answerM M z=q:=⟨_,rfl⟩
    rw [hE7] at HM7 HR ⊢
    simp only at HM7 HR ⊢
    clear hE7
    by_cases hE0:E7=0
    ·subst hE0
     have hR:=HR.out
     subst hR
     go_wp2
     refine wp_post fun we hwe=>?_
     have hBE:Blk we R8 108 #[.int .i64 M.n,.slice A5 z.length C5]:=by
      rw [hwe]
      have:=(HBR.out.set 0 (.int .i64 M.n)).set 1 (.slice A5 z.length C5)
      simpa using this
     have hOE:OwnW we A5 z.length C5 z:=by
      rw [hwe]
      exact (Own.far (p:=⟨R8,0,none⟩) HO7.out (fun x hx h=>Own.ne_blk HO7.out HBR.out (by decide) x hx h) _).far (p:=⟨R8,1,none⟩) (fun x hx h=>Own.ne_blk HO7.out HBR.out (by decide) x hx h) _
     have hGE:MGo mp w a we a7:=by
      rw [hwe]
      exact ⟨(HG7.out.frm.setNew 0 _ hwR).setNew 1 _ hwR,HG7.out.fp⟩
     have hME:MW we mp N7 a7:=by
      rw [hwe]
      exact HM7.out.apartSet HBR.out
     have hr0:=hBE.cell 0
     have hr1:=hBE.cell 1
     simp at hr0 hr1
     clear hwe hBE
     refine bodyPost_ret (v:=.tuple #[.agg #[.int .i64 M.n,.slice A5 z.length C5],.int .i64 0]) (by simp [results,Tryz.results105,go_sem,hr0,hr1]) rfl ?_
     exact ⟨A5,C5,rfl,hOE,HF5.out,a7,hME,hGE⟩
    ·have hR:=HR.out
     have e1:ansL z E7=[]:=by unfold ansL;rw [if_neg hE0]
     have e2:ansN (M.n:Int) E7=0:=by unfold ansN;rw [if_neg hE0]
     rw [e1] at hR
     subst hR
     have hb7:(E7 != 0)=true:=by simpa using hE0
     go_wp2
     refine wp_post fun we hwe=>?_
     have hBE:Blk we R8 108 #[.int .i64 0,.slice none 0 0]:=by
      rw [hwe]
      have:=(HBR.out.set 0 (.int .i64 0)).set 1 (.slice none 0 0)
      simpa using this
     have hGE:MGo mp w a we a7:=by
      rw [hwe]
      exact ⟨(HG7.out.frm.setNew 0 _ hwR).setNew 1 _ hwR,HG7.out.fp⟩
     have hME:MW we mp N7 a7:=by
      rw [hwe]
      exact HM7.out.apartSet HBR.out
     have hr0:=hBE.cell 0
     have hr1:=hBE.cell 1
     simp at hr0 hr1
     clear hwe hBE
     refine bodyPost_ret (v:=.tuple #[.agg #[.int .i64 0,.slice none 0 0],.int .i64 E7]) (by simp [results,Tryz.results105,go_sem,hr0,hr1]) rfl ?_
     exact ⟨none,0,by simp only [e2,List.length_nil],Own.nil _ _ _ _,fresh_none _,a7,hME,hGE⟩
   | false =>
    go_wp2_with (fail)
    refine (HAL.out _ HS.out).mono ?_
    rintro e w4a ⟨rfl,hs4a⟩
    replace HB1:=Lib.hid (HB1.out.frm hs4a id)
    replace HB2:=Lib.hid (HB2.out.frm hs4a id)
    replace HBR:=Lib.hid (HBR.out.frm hs4a id)
    replace HS:=Lib.hid (HS.out.trans hs4a (fun _ _ h=>h))
    clear x0 x1 xl y0 y1 yl r0 r1 rl g0 g1
    clear hs4a
    have x0:=HB1.out.cell 0
    have x1:=HB1.out.cell 1
    have xl:=HB1.out.lt
    have y0:=HB2.out.cell 0
    have y1:=HB2.out.cell 1
    have yl:=HB2.out.lt
    have r0:=HBR.out.cell 0
    have r1:=HBR.out.cell 1
    have rl:=HBR.out.lt
    have g0:=HBR.out.free 0
    have g1:=HBR.out.free 1
    simp at x0 x1 y0 y1 r0 r1
    cases ua with
    | false =>
     rw [if_pos (by simp)] at hR4
     subst hR4
     go_wp2
     refine wp_post fun we hwe=>?_
     have hBE:Blk we R8 108 #[.int .i64 0,.slice none 0 0]:=by
      rw [hwe]
      have:=(HBR.out.set 0 (.int .i64 0)).set 1 (.slice none 0 0)
      simpa using this
     have hSE:Same w we:=by rw [hwe];exact (HS.out.setNew 0 _ hwR).setNew 1 _ hwR
     have hr0:=hBE.cell 0
     have hr1:=hBE.cell 1
     simp at hr0 hr1
     clear hwe hBE
     refine bodyPost_ret (v:=.tuple #[.agg #[.int .i64 0,.slice none 0 0],.int .i64 4]) (by simp [results,Tryz.results105,go_sem,hr0,hr1]) rfl ?_
     exact ⟨none,0,rfl,Own.nil _ _ _ _,fresh_none _,a,HM.out.same hSE,MGo.same hSE⟩
    | true =>
     go_wp2_with (fail)
     refine (HAH.out _ HS.out).mono ?_
     rintro e w4b ⟨rfl,hs4b⟩
     replace HB1:=Lib.hid (HB1.out.frm hs4b id)
     replace HB2:=Lib.hid (HB2.out.frm hs4b id)
     replace HBR:=Lib.hid (HBR.out.frm hs4b id)
     replace HS:=Lib.hid (HS.out.trans hs4b (fun _ _ h=>h))
     clear x0 x1 xl y0 y1 yl r0 r1 rl g0 g1
     clear hs4b
     have x0:=HB1.out.cell 0
     have x1:=HB1.out.cell 1
     have xl:=HB1.out.lt
     have y0:=HB2.out.cell 0
     have y1:=HB2.out.cell 1
     have yl:=HB2.out.lt
     have r0:=HBR.out.cell 0
     have r1:=HBR.out.cell 1
     have rl:=HBR.out.lt
     have g0:=HBR.out.free 0
     have g1:=HBR.out.free 1
     simp at x0 x1 y0 y1 r0 r1
     cases ub with
     | false =>
      rw [if_pos (by simp)] at hR4
      subst hR4
      go_wp2
      refine wp_post fun we hwe=>?_
      have hBE:Blk we R8 108 #[.int .i64 0,.slice none 0 0]:=by
       rw [hwe]
       have:=(HBR.out.set 0 (.int .i64 0)).set 1 (.slice none 0 0)
       simpa using this
      have hSE:Same w we:=by rw [hwe];exact (HS.out.setNew 0 _ hwR).setNew 1 _ hwR
      have hr0:=hBE.cell 0
      have hr1:=hBE.cell 1
      simp at hr0 hr1
      clear hwe hBE
      refine bodyPost_ret (v:=.tuple #[.agg #[.int .i64 0,.slice none 0 0],.int .i64 4]) (by simp [results,Tryz.results105,go_sem,hr0,hr1]) rfl ?_
      exact ⟨none,0,rfl,Own.nil _ _ _ _,fresh_none _,a,HM.out.same hSE,MGo.same hSE⟩
     | true =>
      rw [if_neg (by simp)] at hR4
      replace HR:=Lib.hid hR4
      clear hR4
      go_wp2_with (fail)
      refine (HIF.out m hvm _ HS.out).mono ?_
      rintro e w5 ⟨A5,C5,rfl,hN5⟩
      have hs5:=hN5.2.2
      have hO5:=hN5.1
      have hF5:Fresh w.heap.size A5:=fun b hb=>Nat.le_trans HS.out.size (hN5.2.1 b hb)
      have HF5:=Lib.hid hF5
      have HO5:=Lib.hid hO5
      clear hN5 hO5 hF5
      replace HB1:=Lib.hid (HB1.out.frm hs5 id)
      replace HB2:=Lib.hid (HB2.out.frm hs5 id)
      replace HBR:=Lib.hid (HBR.out.frm hs5 id)
      replace HS:=Lib.hid (HS.out.trans hs5 (fun _ _ h=>h))
      clear x0 x1 xl y0 y1 yl r0 r1 rl g0 g1
      clear hs5
      have x0:=HB1.out.cell 0
      have x1:=HB1.out.cell 1
      have xl:=HB1.out.lt
      have y0:=HB2.out.cell 0
      have y1:=HB2.out.cell 1
      have yl:=HB2.out.lt
      have r0:=HBR.out.cell 0
      have r1:=HBR.out.cell 1
      have rl:=HBR.out.lt
      have g0:=HBR.out.free 0
      have g1:=HBR.out.free 1
      simp at x0 x1 y0 y1 r0 r1
      go_wp2_with (fail)
      have htw5:TW (w5.alloc (.cells #[.int .i64 M.n,.slice A5 (ifT M.n m lo.ws hi.ws).length C5] 108)) M.n ⟨M.n,A5,C5,ifT M.n m lo.ws hi.ws⟩:=(ifT_form hn16 HO5.out).same ((Frm.refl _ _).alloc _)
      have hs6:Same w (w5.alloc (.cells #[.int .i64 M.n,.slice A5 (ifT M.n m lo.ws hi.ws).length C5] 108)):=HS.out.alloc _
      have hBT:=Blk.new w5 108 #[.int .i64 M.n,.slice A5 (ifT M.n m lo.ws hi.ws).length C5]
      replace HBR:=Lib.hid (HBR.out.alloc (.cells #[.int .i64 M.n,.slice A5 (ifT M.n m lo.ws hi.ws).length C5] 108))
      have hT5:w.heap.size≤w5.heap.size:=HS.out.size
      have hT5R:w5.heap.size≠R8:=by omega
      generalize (w5.alloc (.cells #[.int .i64 M.n,.slice A5 (ifT M.n m lo.ws hi.ws).length C5] 108))=w6 at htw5 hs6 hBT HBR ⊢
      refine (HANS.out m w6 A5 C5 hs6 htw5).mono ?_
      rintro e w7 ⟨rfl,a7,hM7,hg7⟩
      have hnm:∀ g,w.heap.size≤g→¬ MFp mp a g:=fun g hg hk=>by
       have:=HM.out.lt hk
       omega
      have hBT7:=hBT.frm hg7.frm (hnm _ hT5)
      replace HBR:=Lib.hid (HBR.out.frm hg7.frm (hnm _ hwR))
      have hO7:=(htw5.frmM (HM.out.same hs6) hg7.frm (fun _ h=>h)).own
      clear x0 x1 xl y0 y1 yl r0 r1 rl g0 g1
      have r0:=HBR.out.cell 0
      have r1:=HBR.out.cell 1
      have rl:=HBR.out.lt
      have g0:=HBR.out.free 0
      have g1:=HBR.out.free 1
      have t0:=hBT7.cell 0
      have t1:=hBT7.cell 1
      have tl:=hBT7.lt
      simp at r0 r1 t0 t1
      have HG7:=Lib.hid ((MGo.same hs6).trans hg7)
      have HM7:=Lib.hid hM7
      have HO7:=Lib.hid hO7
      clear hBT hBT7 hM7 hg7 hO7 htw5 hs6 hnm
      obtain ⟨z,hz⟩:∃ z,ifT M.n m lo.ws hi.ws=z:=⟨_,rfl⟩
      rw [hz] at HM7 HR t1 HO7 ⊢
      clear hz HANS HO5
      obtain ⟨⟨N7,E7⟩,hE7⟩:∃ q,answerM M z=q:=⟨_,rfl⟩
      rw [hE7] at HM7 HR ⊢
      simp only at HM7 HR ⊢
      clear hE7
      by_cases hE0:E7=0
      ·subst hE0
       have hR:=HR.out
       subst hR
       go_wp2
       refine wp_post fun we hwe=>?_
       have hBE:Blk we R8 108 #[.int .i64 M.n,.slice A5 z.length C5]:=by
        rw [hwe]
        have:=(HBR.out.set 0 (.int .i64 M.n)).set 1 (.slice A5 z.length C5)
        simpa using this
       have hOE:OwnW we A5 z.length C5 z:=by
        rw [hwe]
        exact (Own.far (p:=⟨R8,0,none⟩) HO7.out (fun x hx h=>Own.ne_blk HO7.out HBR.out (by decide) x hx h) _).far (p:=⟨R8,1,none⟩) (fun x hx h=>Own.ne_blk HO7.out HBR.out (by decide) x hx h) _
       have hGE:MGo mp w a we a7:=by
        rw [hwe]
        exact ⟨(HG7.out.frm.setNew 0 _ hwR).setNew 1 _ hwR,HG7.out.fp⟩
       have hME:MW we mp N7 a7:=by
        rw [hwe]
        exact HM7.out.apartSet HBR.out
       have hr0:=hBE.cell 0
       have hr1:=hBE.cell 1
       simp at hr0 hr1
       clear hwe hBE
       refine bodyPost_ret (v:=.tuple #[.agg #[.int .i64 M.n,.slice A5 z.length C5],.int .i64 0]) (by simp [results,Tryz.results105,go_sem,hr0,hr1]) rfl ?_
       exact ⟨A5,C5,rfl,hOE,HF5.out,a7,hME,hGE⟩
      ·have hR:=HR.out
       have e1:ansL z E7=[]:=by unfold ansL;rw [if_neg hE0]
       have e2:ansN (M.n:Int) E7=0:=by unfold ansN;rw [if_neg hE0]
       rw [e1] at hR
       subst hR
       have hb7:(E7 != 0)=true:=by simpa using hE0
       go_wp2
       refine wp_post fun we hwe=>?_
       have hBE:Blk we R8 108 #[.int .i64 0,.slice none 0 0]:=by
        rw [hwe]
        have:=(HBR.out.set 0 (.int .i64 0)).set 1 (.slice none 0 0)
        simpa using this
       have hGE:MGo mp w a we a7:=by
        rw [hwe]
        exact ⟨(HG7.out.frm.setNew 0 _ hwR).setNew 1 _ hwR,HG7.out.fp⟩
       have hME:MW we mp N7 a7:=by
        rw [hwe]
        exact HM7.out.apartSet HBR.out
       have hr0:=hBE.cell 0
       have hr1:=hBE.cell 1
       simp at hr0 hr1
       clear hwe hBE
       refine bodyPost_ret (v:=.tuple #[.agg #[.int .i64 0,.slice none 0 0],.int .i64 E7]) (by simp [results,Tryz.results105,go_sem,hr0,hr1]) rfl ?_
       exact ⟨none,0,by simp only [e2,List.length_nil],Own.nil _ _ _ _,fresh_none _,a7,hME,hGE⟩
end
theorem nodup_len {α:Type} [DecidableEq α]:∀ {l m:List α},l.Nodup→(∀ a∈l,a∈m)→l.length≤m.length
 | [],_,_,_=>Nat.zero_le _
 | a :: l,m,hn,hs=>by
  rw [List.nodup_cons] at hn
  have ha:=hs a (List.mem_cons_self ..)
  have h1:=nodup_len (l:=l) (m:=m.erase a) hn.2 (fun b hb=>by
   have hne:b≠a:=fun h=>hn.1 (h ▸ hb)
   exact (List.mem_erase_of_ne hne).2 (hs b (List.mem_cons_of_mem _ hb)))
  have h2:=List.length_erase_of_mem ha
  have h3:0 < m.length:=List.length_pos_of_mem ha
  simp only [List.length_cons]
  omega
def frs (L:List Ent) (l:List Nd) (n:Nd):List Nd:=if look L n=none∧n.lo≠n.hi then (if n∈l then l else l ++ [n]) else l
def news (L:List Ent) (cands:List Nd):List Nd:=cands.foldl (frs L) []
theorem freshL_news (k:KS) (x:Int) (cs:List Crs):freshL k x cs=news k.L (cs.flatMap (candL x)):=rfl
theorem frs_fold (L:List Ent):∀ (cands s:List Nd),s.Nodup→(cands.foldl (frs L) s).Nodup∧∀ n,n∈cands.foldl (frs L) s↔n∈s∨(n∈cands∧look L n=none∧n.lo≠n.hi)
 | [],s,hs=>⟨hs,fun n=>by simp⟩
 | c :: cands,s,hs=>by
  have hs':(frs L s c).Nodup∧∀ n,n∈frs L s c↔n∈s∨(n=c∧look L n=none∧n.lo≠n.hi):=by
   unfold frs
   split
   ·rename_i h
    split
    ·rename_i hm
     refine ⟨hs,fun n=>⟨.inl,fun hh=>hh.elim id (fun h1=>by rw [h1.1];exact hm)⟩⟩
    ·rename_i hm
     refine ⟨?_,fun n=>?_⟩
     ·rw [List.nodup_append]
      exact ⟨hs,by simp,by rintro a ha b hb rfl;simp at hb;subst hb;exact hm ha⟩
     ·rw [List.mem_append,List.mem_singleton]
      constructor
      ·rintro (h1 | h1)
       ·exact .inl h1
       ·exact .inr ⟨h1,by rw [h1];exact h⟩
      ·rintro (h1 | h1)
       ·exact .inl h1
       ·exact .inr h1.1
   ·rename_i h
    refine ⟨hs,fun n=>⟨.inl,fun hh=>hh.elim id (fun h1=>?_)⟩⟩
    rw [h1.1] at h1
    exact absurd h1.2 h
  obtain ⟨h1,h2⟩:=frs_fold L cands (frs L s c) hs'.1
  refine ⟨h1,fun n=>?_⟩
  rw [List.foldl_cons,h2,hs'.2]
  constructor
  ·rintro ((h | h) | h)
   ·exact .inl h
   ·exact .inr ⟨by rw [h.1];exact List.mem_cons_self ..,h.2⟩
   ·exact .inr ⟨List.mem_cons_of_mem _ h.1,h.2⟩
  ·rintro (h | h)
   ·exact .inl (.inl h)
   ·rcases List.mem_cons.1 h.1 with h3 | h3
    ·exact .inl (.inr ⟨h3,h.2⟩)
    ·exact .inr ⟨h3,h.2⟩
theorem mem_news {L:List Ent} {cands:List Nd} {n:Nd}:n∈news L cands↔n∈cands∧look L n=none∧n.lo≠n.hi:=by
 unfold news
 rw [(frs_fold L cands [] List.nodup_nil).2]
 simp
theorem news_nodup (L:List Ent) (cands:List Nd):(news L cands).Nodup:=(frs_fold L cands [] List.nodup_nil).1
theorem look_sub {L L':List Ent} (h:∀ p∈L,p∈L') {n:Nd} (hn:look L' n=none):look L n=none:=by
 rw [look_none] at hn ⊢
 intro hm
 obtain ⟨r,hr⟩:=mem_keys.1 hm
 exact hn (mem_keys.2 ⟨r,h _ hr⟩)
theorem news_mono {L L':List Ent} {cands cands':List Nd} (h:∀ p∈L,p∈L') (hc:∀ n∈cands',n∈cands):(news L' cands').length≤(news L cands).length:=by
 refine nodup_len (news_nodup _ _) (fun n hn=>?_)
 rw [mem_news] at hn ⊢
 exact ⟨hc n hn.1,look_sub h hn.2.1,hn.2.2⟩
theorem news_took {L:List Ent} {cands:List Nd} {n:Nd} {r:Int} (hl:look L n=none) (hne:n.lo≠n.hi):(news (L ++ [(n,r)]) cands).length+1≤(news L (n :: cands)).length:=by
 have h1:(n :: news (L ++ [(n,r)]) cands).length≤(news L (n :: cands)).length:=by
  refine nodup_len ?_ (fun m hm=>?_)
  ·rw [List.nodup_cons]
   refine ⟨fun hm=>?_,news_nodup _ _⟩
   have:=(mem_news.1 hm).2.1
   rw [look_none] at this
   exact this (mem_keys.2 ⟨r,by simp⟩)
  ·rcases List.mem_cons.1 hm with rfl | hm
   ·exact mem_news.2 ⟨List.mem_cons_self ..,hl,hne⟩
   ·obtain ⟨a,b,c⟩:=mem_news.1 hm
    exact mem_news.2 ⟨List.mem_cons_of_mem _ a,look_sub (fun p hp=>List.mem_append_left _ hp) b,c⟩
 simpa using h1
theorem news_pos {L:List Ent} {cands:List Nd} {n:Nd} (hm:n∈cands) (hl:look L n=none) (hne:n.lo≠n.hi):0 < (news L cands).length :=
 List.length_pos_of_mem (mem_news.2 ⟨hm,hl,hne⟩)
section
variable {k:KS} {ext:List Int} {X:List Ent} {n:Nd}
theorem bk_setadd {n0:Nd} {r:Int} (h:Bk k (n.hi :: n.lo :: ext) ((n0,r) :: X)) (hn:NdOk k n) (hne:n.lo≠n.hi) (hnew:n ∉ keys k.L) (hb:ext.length+k.L.length+1≤8000000):Bk (addK (setK k r n) n r) ext X:=by
 have hP0:(k.L ++ (n0,r) :: X).Perm ((n0,r) :: (k.L ++ X)):=List.perm_middle
 have hr0:(n0,r)∈k.L ++ (n0,r) :: X:=by simp
 obtain ⟨m,rfl,m2,mu,ml⟩:=h.mem _ _ hr0
 have hlt:=lt_of_get ml
 have hL:(addK (setK k (m:Int) n) n (m:Int)).L=k.L ++ [(n,(m:Int))]:=addL_new ⟨hn.v0,hn.v1⟩ hnew
 have hls:∀ i:Nat,(addK (setK k (m:Int) n) n (m:Int)).ls[i]?=if i=m then some ⟨n,true,0⟩ else k.ls[i]?:=by
  intro i
  show (k.ls.set (m:Int).toNat ⟨n,true,0⟩)[i]?=_
  rw [Int.toNat_natCast,List.getElem?_set]
  by_cases hi:m=i
  ·subst hi;rw [if_pos rfl,if_pos hlt,if_pos rfl]
  ·rw [if_neg hi,if_neg (fun h=>hi h.symm)]
 have hll:(addK (setK k (m:Int) n) n (m:Int)).ls.length=k.ls.length:=by show (k.ls.set _ _).length=_;rw [List.length_set]
 have hP:((addK (setK k (m:Int) n) n (m:Int)).L ++ X).Perm ((n,(m:Int)) :: (k.L ++ X)):=by
  rw [hL,List.append_assoc,List.singleton_append]
  exact List.perm_middle
 have hmem:∀ p,p∈(addK (setK k (m:Int) n) n (m:Int)).L ++ X↔p=(n,(m:Int))∨p∈k.L ++ X:=fun p=>by rw [hP.mem_iff,List.mem_cons]
 have hmem0:∀ p,p∈k.L ++ (n0,(m:Int)) :: X↔p=(n0,(m:Int))∨p∈k.L ++ X:=fun p=>by rw [hP0.mem_iff,List.mem_cons]
 have hrn:=(hP0.map (·.2)).nodup_iff.1 h.rn
 rw [List.map_cons,List.nodup_cons] at hrn
 have hnq:∀ n' q,(n',q)∈k.L ++ X→q≠m:=by
  rintro n' q hq rfl
  exact hrn.1 (List.mem_map_of_mem (f:=(·.2)) hq)
 have htk:∀ q:Int,0≤q→tk (addK (setK k (m:Int) n) n (m:Int)).ls q=tk k.ls q:=by
  intro q hq
  obtain ⟨i,rfl⟩:=Int.eq_ofNat_of_zero_le hq
  unfold tk
  rw [Int.toNat_natCast,hls]
  by_cases him:i=m
  ·subst him;rw [if_pos rfl,ml]
  ·rw [if_neg him]
 have hcnt:=h.cnt
 rw [hP0.length_eq,List.length_cons] at hcnt
 refine ⟨h.n1,h.n64,h.c2,h.cM,by rw [hls,if_neg (by omega)];exact h.l0,by rw [hls,if_neg (by omega)];exact h.l1,?_,?_,?_,?_,?_,h.fn,?_,by rw [hll];exact h.cntl,by rw [hll];exact h.lim,h.ul,by rw [hll];exact h.ulm,?_,?_,?_,?_,?_⟩
 ·intro n' q hq
  rcases (hmem _).1 hq with he | hq
  ·injection he with e1 e2
   subst e1 e2
   exact ⟨m,rfl,m2,mu,by rw [hls,if_pos rfl]⟩
  ·obtain ⟨i,rfl,i2,iu,il⟩:=h.mem n' q ((hmem0 _).2 (.inr hq))
   have:=hnq _ _ hq
   exact ⟨i,rfl,i2,iu,by rw [hls,if_neg (by omega)];exact il⟩
 ·intro i p i2 hp ht
  rw [hls] at hp
  by_cases him:i=m
  ·subst him
   rw [if_pos rfl] at hp
   injection hp with hp
   subst hp
   exact (hmem _).2 (.inl rfl)
  ·rw [if_neg him] at hp
   rcases (hmem0 _).1 (h.conv i p i2 hp ht) with h1 | h1
   ·injection h1 with _ h2;omega
   ·exact (hmem _).2 (.inr h1)
 ·rw [hL]
  unfold keys at hnew ⊢
  rw [List.map_append,List.nodup_append]
  refine ⟨h.kn,by simp,?_⟩
  intro a ha b hb hab
  simp at hb
  subst hb hab
  exact hnew ha
 ·rw [(hP.map _).nodup_iff,List.map_cons,List.nodup_cons]
  refine ⟨?_,hrn.2⟩
  intro hm
  obtain ⟨⟨n',q⟩,hq,he⟩:=List.mem_map.1 hm
  exact hnq _ _ hq he
 ·intro q hq
  obtain ⟨i,rfl,i2,p,hp,hpt⟩:=h.fre q hq
  have:i≠m:=by
   rintro rfl
   rw [ml] at hp
   injection hp with hp
   rw [← hp] at hpt
   cases hpt
  exact ⟨i,rfl,i2,p,by rw [hls,if_neg this];exact hp,hpt⟩
 ·rw [hP.length_eq,List.length_cons]
  exact hcnt
 ·rw [hL]
  intro n' q hq
  rcases List.mem_append.1 hq with hq | hq
  ·obtain ⟨a,b,c,d,e,f,g⟩:=h.chl n' q hq
   exact ⟨a,b,c,d,by rw [htk _ c];exact e,by rw [htk _ d];exact f,g⟩
  ·simp at hq
   obtain ⟨rfl,_⟩:=hq
   exact ⟨hn.v0,hn.v1,hn.l0,hn.h0,by rw [htk _ hn.l0];exact hn.l1,by rw [htk _ hn.h0];exact hn.h1,hne⟩
 ·intro n' q hq
  have hu:k.us[q.toNat]?=some ((par k.L q+(if k.hs.getD q.toNat 0=0 then 0 else 1)+(n.hi :: n.lo :: ext).count q:Nat):Int):=by
   rcases (hmem _).1 hq with he | hq
   ·injection he with _ e2
    rw [e2]
    exact h.use n0 _ hr0
   ·exact h.use n' q ((hmem0 _).2 (.inr hq))
  show k.us[q.toNat]?=_
  rw [hu,hL,par_append,par_cons,par_nil]
  congr 1
  rw [List.count_cons,List.count_cons]
  show ((_+(if k.hs.getD q.toNat 0=0 then 0 else 1)+_:Nat):Int)=((_+(if k.hs.getD q.toNat 0=0 then 0 else 1)+_:Nat):Int)
  simp only [beq_iff_eq]
  omega
 ·intro i v hv
  obtain ⟨a,b,c⟩:=h.hol i v hv
  refine ⟨a,b,fun h0=>?_⟩
  obtain ⟨n',hn'⟩:=c h0
  rcases (hmem0 _).1 hn' with h1 | h1
  ·injection h1 with _ h2
   exact ⟨n,(hmem _).2 (.inl (by rw [h2]))⟩
  ·exact ⟨n',(hmem _).2 (.inr h1)⟩
 ·intro q hq
  obtain ⟨a,b⟩:=h.exl q (List.mem_cons_of_mem _ (List.mem_cons_of_mem _ hq))
  exact ⟨a,by rw [htk _ a];exact b⟩
 ·rw [hL,List.length_append,List.length_singleton]
  omega
theorem getK_cases (n:Nd):(n.lo=n.hi∧getK k n=(n.lo,k))∨(n.lo≠n.hi∧∃ r,look k.L n=some r∧getK k n=(r,k))∨(n.lo≠n.hi∧look k.L n=none∧getK k n=((takeR k:Int),takeK k n)):=by
 unfold getK
 by_cases h:n.lo=n.hi
 ·rw [if_pos h];exact .inl ⟨h,rfl⟩
 ·rw [if_neg h]
  cases hl:look k.L n with
  | none=>exact .inr (.inr ⟨h,rfl,rfl⟩)
  | some r=>exact .inr (.inl ⟨h,r,rfl,rfl⟩)
def Got (L:List Ent) (n:Nd) (r:Int):Prop:=if n.lo=n.hi then r=n.lo else (n,r)∈L
theorem Got.mono {L L':List Ent} {n:Nd} {r:Int} (h:Got L n r) (hs:∀ p∈L,p∈L'):Got L' n r:=by
 unfold Got at h ⊢
 split
 ·rename_i hc;rwa [if_pos hc] at h
 ·rename_i hc;rw [if_neg hc] at h;exact hs _ h
structure GetOk (k:KS) (n:Nd) (ext:List Int) (X:List Ent):Prop where
 bk:Bk (getK k n).2 ext X
 live:0≤(getK k n).1∧tk (getK k n).2.ls (getK k n).1=true
 got:Got (getK k n).2.L n (getK k n).1
 sub:∀ p∈k.L,p∈(getK k n).2.L
 new:∀ p∈(getK k n).2.L,p∈k.L∨(p.1=n∧n.lo≠n.hi)
 room:∀ cands,(getK k n).2.ac+(news (getK k n).2.L cands).length≤k.ac+(news k.L (n :: cands)).length
 len:(getK k n).2.L.length≤k.L.length+1
 hsd:∀ m,(getK k n).2.hs.getD m 0=k.hs.getD m 0
theorem takeK_hs (h:Bk k ext X) (n:Nd) (m:Nat):(takeK k n).hs.getD m 0=k.hs.getD m 0:=by
 have e:(takeK k n).hs=(upto k.hs (takeR k+1)).set (takeR k) 0:=by rw [takeK_eq]
 have hlt:takeR k < (upto k.hs (takeR k+1)).length:=by rw [upto_len];omega
 rw [e,getD_set hlt]
 split
 ·rename_i hm
  subst hm
  obtain ⟨_,rf,_⟩:=bk_takeR h
  rw [List.getD_eq_getElem?_getD]
  cases hx:k.hs[takeR k]? with
  | none=>rfl
  | some x =>
   obtain ⟨_,_,c⟩:=h.hol _ x hx
   by_cases h0:x=0
   ·subst h0;rfl
   ·obtain ⟨n',hn'⟩:=c h0
    have:=(h.memL hn').2.2
    rw [rf] at this
    cases this
 ·rw [List.getD_eq_getElem?_getD,List.getD_eq_getElem?_getD,upto_get]
  split
  ·rfl
  ·rename_i hge
   rw [List.getElem?_eq_none (by omega)]
   split <;> rfl
theorem takeK_L {n:Nd} (hv:0≤n.v∧n.v < k.n) (hnew:n ∉ keys k.L):(takeK k n).L=k.L ++ [(n,(takeR k:Int))]:=by
 rw [takeK_eq];exact addL_new hv hnew
theorem getOk (h:Bk k ext X) (hn:NdOk k n) (hc:n.lo≠n.hi→look k.L n=none→k.ac < k.c) (hb:ext.length+k.L.length < 8000000):GetOk k n ext X:=by
 rcases getK_cases (k:=k) n with ⟨he,e⟩ | ⟨hne,r,hl,e⟩ | ⟨hne,hl,e⟩
 ·refine ⟨by rw [e];exact h,by rw [e];exact ⟨hn.l0,hn.l1⟩,by rw [e];unfold Got;rw [if_pos he],by rw [e];exact fun p hp=>hp,by rw [e];exact fun p hp=>.inl hp,fun cands=>?_,by rw [e];exact Nat.le_succ _,by rw [e];exact fun _=>rfl⟩
  rw [e]
  have:=news_mono (L:=k.L) (L':=k.L) (cands:=n :: cands) (cands':=cands) (fun p hp=>hp) (fun m hm=>List.mem_cons_of_mem _ hm)
  simp only
  omega
 ·have hm:=look_mem hl
  have hml:=h.memL (List.mem_append_left X hm)
  refine ⟨by rw [e];exact h,by rw [e];exact ⟨by simp only;omega,hml.2.2⟩,by rw [e];unfold Got;rw [if_neg hne];exact hm,by rw [e];exact fun p hp=>hp,by rw [e];exact fun p hp=>.inl hp,fun cands=>?_,by rw [e];exact Nat.le_succ _,by rw [e];exact fun _=>rfl⟩
  rw [e]
  have:=news_mono (L:=k.L) (L':=k.L) (cands:=n :: cands) (cands':=cands) (fun p hp=>hp) (fun m hm=>List.mem_cons_of_mem _ hm)
  simp only
  omega
 ·have hnew:=look_none.1 hl
  have hbk:=bk_take h (hc hne hl) ⟨hn.v0,hn.v1⟩ hn.l0 hn.l1 hn.h0 hn.h1 hne hnew hb
  have hL:=takeK_L (k:=k) ⟨hn.v0,hn.v1⟩ hnew
  have hin:(n,(takeR k:Int))∈(takeK k n).L:=by rw [hL];simp
  have hml:=hbk.memL (List.mem_append_left X hin)
  have hac:(takeK k n).ac=k.ac+1:=by rw [takeK_eq];rfl
  refine ⟨by rw [e];exact hbk,by rw [e];exact ⟨by simp only;omega,hml.2.2⟩,by rw [e];unfold Got;rw [if_neg hne];exact hin,by rw [e];simp only;rw [hL];exact fun p hp=>List.mem_append_left _ hp,?_,fun cands=>?_,by rw [e];simp only;rw [hL];simp,by rw [e];exact takeK_hs h n⟩
  ·rw [e]
   simp only
   rw [hL]
   intro p hp
   rcases List.mem_append.1 hp with hp | hp
   ·exact .inl hp
   ·simp at hp;subst hp;exact .inr ⟨rfl,hne⟩
  ·rw [e]
   simp only
   rw [hac,hL]
   have:=news_took (cands:=cands) (r:=(takeR k:Int)) hl hne
   omega
end
structure Ord (k:KS):Prop where
 lo:∀ n r m,(n,r)∈k.L→(m,n.lo)∈k.L→levK k n.v < levK k m.v
 hi:∀ n r m,(n,r)∈k.L→(m,n.hi)∈k.L→levK k n.v < levK k m.v
structure KI (k:KS):Prop where
 bk:Bk k [] []
 lv:Lv k
 pos:Pos k
 ord:Ord k
theorem KI.mem' {k:KS} (K:KI k) {n:Nd} {r:Int} (h:(n,r)∈k.L):2≤r∧getN k.ls r=n∧tk k.ls r=true:=K.bk.memL (List.mem_append_left [] h)
theorem KI.uniq {k:KS} (K:KI k) {n m:Nd} {r:Int} (h:(n,r)∈k.L) (h':(m,r)∈k.L):n=m:=K.bk.uniq (List.mem_append_left [] h) (List.mem_append_left [] h')
theorem KI.live {k:KS} (K:KI k) {r:Int} (h0:0≤r):tk k.ls r=true↔r=0∨r=1∨∃ n,(n,r)∈k.L:=by
 have:=K.bk.tkL h0
 rwa [List.append_nil] at this
theorem KI.const {k:KS} (K:KI k) {r:Int} (h:r=0∨r=1):(getN k.ls r).v = -1:=by
 rcases h with rfl | rfl
 ·unfold getN
  rw [show ((0:Int).toNat)=0 from rfl,K.bk.l0]
  rfl
 ·unfold getN
  rw [show ((1:Int).toNat)=1 from rfl,K.bk.l1]
  rfl
theorem Lv.lev_of {k:KS} (h:Lv k) {l v:Nat} (ho:k.ord[l]?=some (v:Int)):v < k.n∧levK k v=l:=by
 obtain ⟨m,h1,h2,h3⟩:=h.o2 l v ho
 obtain rfl:v=m:=by omega
 exact ⟨h2,by unfold levK;rw [Int.toNat_natCast,List.getD_eq_getElem?_getD,h3];rfl⟩
theorem Lv.ord_of {k:KS} (h:Lv k) {v:Int} (h0:0≤v) (h1:v < k.n):∃ i:Nat,levK k v=i∧i < k.n∧k.ord[i]?=some v:=by
 obtain ⟨m,rfl⟩:=Int.eq_ofNat_of_zero_le h0
 have hlt:m < k.lev.length:=by rw [h.ll];omega
 obtain ⟨i,a,b,c⟩:=h.l2 m _ (List.getElem?_eq_getElem hlt)
 exact ⟨i,by unfold levK;rw [Int.toNat_natCast,List.getD_eq_getElem?_getD,List.getElem?_eq_getElem hlt,Option.getD_some,a],b,c⟩
structure XY (k:KS) (l x y:Nat):Prop where
 hx:k.ord[l]?=some (x:Int)
 hy:k.ord[l+1]?=some (y:Int)
section
variable {k:KS} {l x y:Nat}
theorem XY.facts (h:XY k l x y) (K:KI k):x < k.n∧y < k.n∧levK k x=l∧levK k y=l+1∧x≠y∧(∀ v:Int,0≤v→v < k.n→levK k v=l→v=x)∧(∀ v:Int,0≤v→v < k.n→levK k v=l+1→v=y):=by
 obtain ⟨h1,h2⟩:=K.lv.lev_of h.hx
 obtain ⟨h3,h4⟩:=K.lv.lev_of h.hy
 refine ⟨h1,h3,h2,by simpa using h4,?_,?_,?_⟩
 ·rintro rfl
  rw [h2] at h4
  omega
 ·intro v v0 v1 hv
  obtain ⟨i,e1,_,e3⟩:=K.lv.ord_of v0 v1
  obtain rfl:i=l:=by omega
  rw [h.hx] at e3
  injection e3 with e3
  exact e3.symm
 ·intro v v0 v1 hv
  obtain ⟨i,e1,_,e3⟩:=K.lv.ord_of v0 v1
  obtain rfl:i=l+1:=by omega
  rw [h.hy] at e3
  injection e3 with e3
  exact e3.symm
def Low (k:KS) (l:Nat) (q:Int):Prop:=0≤q∧tk k.ls q=true∧∀ m,(m,q)∈k.L→(l:Int)+1 < levK k m.v
theorem part_cases (K:KI k) {q:Int} (h0:0≤q) (ht:tk k.ls q=true):(∃ m,(m,q)∈k.L∧m.v=y∧partsK k q y=(m.lo,m.hi))∨((∀ m,(m,q)∈k.L→m.v≠y)∧(getN k.ls q).v≠y∧partsK k q y=(q,q)):=by
 rcases (K.live h0).1 ht with h | h | ⟨m,hm⟩
 ·have hc:=K.const (.inl h)
  exact .inr ⟨fun m hm=>by have:=(K.mem' hm).1;omega,by omega,by unfold partsK;rw [if_neg (by omega)]⟩
 ·have hc:=K.const (.inr h)
  exact .inr ⟨fun m hm=>by have:=(K.mem' hm).1;omega,by omega,by unfold partsK;rw [if_neg (by omega)]⟩
 ·have hg:=(K.mem' hm).2.1
  by_cases hy:m.v=y
  ·exact .inl ⟨m,hm,hy,by unfold partsK;rw [hg,if_pos hy]⟩
  ·exact .inr ⟨fun m' hm'=>by rw [K.uniq hm' hm];exact hy,by rw [hg];exact hy,by unfold partsK;rw [hg,if_neg hy]⟩
theorem parts_low (h:XY k l x y) (K:KI k) {n:Nd} {r q:Int} (hn:(n,r)∈k.L) (hv:n.v=x) (hq:q=n.lo∨q=n.hi):Low k l (partsK k q y).1∧Low k l (partsK k q y).2:=by
 obtain ⟨xn,yn,lx,ly,xy,ix,iy⟩:=h.facts K
 obtain ⟨_,_,l0,h0,lt,ht,_⟩:=K.bk.chl n r hn
 have q0:0≤q:=by rcases hq with rfl | rfl <;> assumption
 have qt:tk k.ls q=true:=by rcases hq with rfl | rfl <;> assumption
 have hlev:∀ m,(m,q)∈k.L→(l:Int) < levK k m.v:=by
  intro m hm
  rw [← lx,← hv]
  rcases hq with rfl | rfl
  ·exact K.ord.lo n r m hn hm
  ·exact K.ord.hi n r m hn hm
 rcases part_cases (y:=y) K q0 qt with ⟨m,hm,hmy,hp⟩ | ⟨hno,_,hp⟩
 ·rw [hp]
  obtain ⟨_,_,ml0,mh0,mlt,mht,_⟩:=K.bk.chl m q hm
  refine ⟨⟨ml0,mlt,fun m' hm'=>?_⟩,⟨mh0,mht,fun m' hm'=>?_⟩⟩
  ·have:=K.ord.lo m q m' hm hm'
   rw [hmy,ly] at this
   exact this
  ·have:=K.ord.hi m q m' hm hm'
   rw [hmy,ly] at this
   exact this
 ·rw [hp]
  have:Low k l q:=⟨q0,qt,fun m hm=>by
   have h1:=hlev m hm
   obtain ⟨v0,v1,_⟩:=K.bk.chl m q hm
   have h2:levK k m.v≠(l:Int)+1:=fun he=>hno m hm (iy m.v v0 v1 he)
   omega⟩
  exact ⟨this,this⟩
theorem part_inj (K:KI k) {q q':Int} (h0:0≤q) (ht:tk k.ls q=true) (h0':0≤q') (ht':tk k.ls q'=true) (he:partsK k q y=partsK k q' y):q=q':=by
 rcases part_cases (y:=y) K h0 ht with ⟨m,hm,hmy,hp⟩ | ⟨_,_,hp⟩ <;> rcases part_cases (y:=y) K h0' ht' with ⟨m',hm',hmy',hp'⟩ | ⟨_,_,hp'⟩
 ·rw [hp,hp'] at he
  injection he with e1 e2
  have:m=m':=by
   cases m;cases m'
   simp_all
  rw [this] at hm
  exact pair_uniq K.bk.kn hm hm'
 ·rw [hp,hp'] at he
  injection he with e1 e2
  obtain ⟨_,_,_,_,_,_,hne⟩:=K.bk.chl m q hm
  exact absurd (e1.trans e2.symm) hne
 ·rw [hp,hp'] at he
  injection he with e1 e2
  obtain ⟨_,_,_,_,_,_,hne⟩:=K.bk.chl m' q' hm'
  exact absurd (e1.symm.trans e2) hne
 ·rw [hp,hp'] at he
  injection he
theorem mem_rising {L:List Ent} {r:Int}:r∈rising L↔∃ n,(n,r)∈L:=by
 unfold rising
 rw [List.mem_mergeSort,List.mem_map]
 constructor
 ·rintro ⟨⟨n,q⟩,h,rfl⟩;exact ⟨n,h⟩
 ·rintro ⟨n,h⟩;exact ⟨_,h,rfl⟩
theorem rising_nodup {L:List Ent} (h:(L.map (·.2)).Nodup):(rising L).Nodup:=(List.mergeSort_perm _ _).nodup_iff.2 h
theorem crsT_r (k:KS) (x y:Int):(crsT k x y).map (·.r)=(rising (ofv k.L x.toNat)).filter (isCrs k y):=by
 unfold crsT crsIn
 rw [List.map_map]
 exact List.map_id _
theorem crsT_nodup (K:KI k) (x y:Int):((crsT k x y).map (·.r)).Nodup:=by
 rw [crsT_r]
 refine nodup_filter _ (rising_nodup ?_)
 have:=K.bk.rn
 rw [List.append_nil] at this
 exact this.sublist (List.Sublist.map _ (List.filter_sublist))
structure IsCrs (k:KS) (l x y:Nat) (c:Crs):Prop where
 mem:(c.n,c.r)∈k.L
 v:c.n.v=x
 p0:partsK k c.n.lo y=(c.a00,c.a01)
 p1:partsK k c.n.hi y=(c.a10,c.a11)
 ne:c.a00≠c.a01∨c.a10≠c.a11
 l00:Low k l c.a00
 l01:Low k l c.a01
 l10:Low k l c.a10
 l11:Low k l c.a11
theorem crsT_mem (h:XY k l x y) (K:KI k) {c:Crs} (hc:c∈crsT k x y):IsCrs k l x y c:=by
 unfold crsT crsIn at hc
 rw [Int.toNat_natCast] at hc
 obtain ⟨r,hr,rfl⟩:=List.mem_map.1 hc
 obtain ⟨hr1,hr2⟩:=List.mem_filter.1 hr
 obtain ⟨n,hn⟩:=mem_rising.1 hr1
 obtain ⟨hn1,hn2⟩:=List.mem_filter.1 hn
 replace hn2:n.v=x:=by simpa using hn2
 have hg:=(K.mem' hn1).2.1
 have e:crsOf k y r=⟨r,n,(partsK k n.lo y).1,(partsK k n.lo y).2,(partsK k n.hi y).1,(partsK k n.hi y).2⟩:=by unfold crsOf;rw [hg]
 rw [e]
 obtain ⟨_,_,l0,h0,lt,ht,_⟩:=K.bk.chl n r hn1
 have pl:=parts_low h K hn1 hn2 (.inl rfl)
 have ph:=parts_low h K hn1 hn2 (.inr rfl)
 refine ⟨hn1,hn2,rfl,rfl,?_,pl.1,pl.2,ph.1,ph.2⟩
 unfold isCrs at hr2
 rw [hg] at hr2
 rw [Bool.or_eq_true] at hr2
 rcases hr2 with h1 | h1
 ·left
  rcases part_cases (y:=y) K l0 lt with ⟨m,hm,_,hp⟩ | ⟨_,hno,_⟩
  ·rw [hp]
   exact (K.bk.chl m _ hm).2.2.2.2.2.2
  ·exact absurd (of_decide_eq_true h1) hno
 ·right
  rcases part_cases (y:=y) K h0 ht with ⟨m,hm,_,hp⟩ | ⟨_,hno,_⟩
  ·rw [hp]
   exact (K.bk.chl m _ hm).2.2.2.2.2.2
  ·exact absurd (of_decide_eq_true h1) hno
theorem crsT_all (h:XY k l x y) (K:KI k) {n:Nd} {r:Int} (hn:(n,r)∈k.L) (hv:n.v=x) (hc:∀ c∈crsT k x y,c.r≠r) {q:Int} (hq:q=n.lo∨q=n.hi):Low k l q:=by
 obtain ⟨_,_,l0,h0,lt,ht,_⟩:=K.bk.chl n r hn
 have q0:0≤q:=by rcases hq with rfl | rfl <;> assumption
 have qt:tk k.ls q=true:=by rcases hq with rfl | rfl <;> assumption
 have hg:=(K.mem' hn).2.1
 rcases part_cases (y:=y) K q0 qt with ⟨m,hm,hmy,hp⟩ | ⟨hno,_,hp⟩
 ·exfalso
  refine hc (crsOf k y r) ?_ rfl
  unfold crsT crsIn
  refine List.mem_map.2 ⟨r,List.mem_filter.2 ⟨?_,?_⟩,rfl⟩
  ·rw [Int.toNat_natCast]
   exact mem_rising.2 ⟨n,List.mem_filter.2 ⟨hn,by simpa using hv⟩⟩
  ·unfold isCrs
   rw [hg]
   have hgm:=(K.mem' hm).2.1
   rcases hq with rfl | rfl
   ·simp [hgm,hmy]
   ·simp [hgm,hmy]
 ·have:=(parts_low h K hn hv hq).1
  rwa [hp] at this
end
def kids (cs:List Crs):List Int:=cs.flatMap fun c=>[c.n.lo,c.n.hi]
def ents (cs:List Crs):List Ent:=cs.map fun c=>(c.n,c.r)
theorem kids_len (cs:List Crs):(kids cs).length=2 * cs.length:=by
 unfold kids
 induction cs with
 | nil=>rfl
 | cons c cs ih=>rw [List.flatMap_cons,List.length_append,ih];simp <;> omega
theorem kids_append (a b:List Crs):kids (a ++ b)=kids a ++ kids b:=by unfold kids;rw [List.flatMap_append]
theorem turn1_bk:∀ (cs:List Crs) (k:KS) (ext:List Int) (X:List Ent),Bk k ext X→(∀ c∈cs,(c.n,c.r)∈k.L)→(cs.map (·.n)).Nodup→ext.length+k.L.length+cs.length≤8000000 →
  Bk (turn1 k cs) (kids cs ++ ext) (ents cs ++ X)∧(∀ p,p∈(turn1 k cs).L↔p∈k.L∧∀ c∈cs,p.1≠c.n)∧(turn1 k cs).hs=k.hs∧(turn1 k cs).ac=k.ac∧kst (turn1 k cs)=kst k
 | [],k,ext,X,h,_,_,_=>⟨h,fun p=>by simp [turn1],rfl,rfl,rfl⟩
 | c :: cs,k,ext,X,h,hm,hn,hb=>by
  rw [List.map_cons,List.nodup_cons] at hn
  have hmc:=hm c (List.mem_cons_self ..)
  have hlen:=(perm_without h.kn hmc).length_eq
  have hL:=(remK_L h hmc).1
  simp only [List.length_cons] at hb hlen
  have h1:=bk_rem h hmc (by omega)
  have hmem:∀ p,p∈(remK k c.n).L↔p∈k.L∧p.1≠c.n:=by
   intro p
   rw [hL]
   unfold without
   rw [List.mem_filter]
   simp
  obtain ⟨g1,g2,g3,g4,g5⟩:=turn1_bk cs (remK k c.n) _ _ h1 (fun c' hc'=>(hmem _).2 ⟨hm c' (List.mem_cons_of_mem _ hc'),fun he=>hn.1 (by rw [← he];exact List.mem_map_of_mem (f:=(·.n)) hc')⟩) hn.2 (by simp only [List.length_cons];rw [hL];omega)
  refine ⟨?_,fun p=>?_,g3,g4,g5⟩
  ·refine g1.perm ?_ ?_
   ·show (([c.n.lo,c.n.hi] ++ kids cs) ++ ext).Perm (kids cs ++ (c.n.hi :: c.n.lo :: ext))
    have e1:([c.n.lo,c.n.hi] ++ kids cs).Perm (kids cs ++ [c.n.lo,c.n.hi]):=List.perm_append_comm
    refine (e1.append_right ext).trans ?_
    rw [List.append_assoc]
    exact (List.Perm.swap _ _ _).append_left _
   ·show ((c.n,c.r) :: (ents cs ++ X)).Perm (ents cs ++ (c.n,c.r) :: X)
    exact List.perm_middle.symm
  ·show p∈(turn1 (remK k c.n) cs).L↔_
   rw [g2,hmem]
   constructor
   ·rintro ⟨⟨a,b⟩,d⟩
    exact ⟨a,fun c' hc'=>by rcases List.mem_cons.1 hc' with rfl | hc';exact b;exact d c' hc'⟩
   ·rintro ⟨a,b⟩
    exact ⟨⟨a,b c (List.mem_cons_self ..)⟩,fun c' hc'=>b c' (List.mem_cons_of_mem _ hc')⟩
structure T2 (k0:KS) (x y:Nat) (done rest:List Crs) (k:KS):Prop where
 bk:Bk k (kids (done ++ rest)) (ents rest)
 same:kst k=kst k0
 base:∀ p∈k0.L,(∀ c∈done ++ rest,p.2≠c.r)→p∈k.L
 ent:∀ p∈k.L,(p∈k0.L∧∀ c∈done ++ rest,p.2≠c.r)∨(∃ c∈done,(p.1=⟨x,c.a00,c.a10⟩∨p.1=⟨x,c.a01,c.a11⟩)∧p.1.lo≠p.1.hi) ∨
  (∃ c∈done,p.2=c.r∧p.1.v=y∧Got k.L ⟨x,c.a00,c.a10⟩ p.1.lo∧Got k.L ⟨x,c.a01,c.a11⟩ p.1.hi)
 dn:∀ c∈done,∃ n,(n,c.r)∈k.L∧n.v=y∧Got k.L ⟨x,c.a00,c.a10⟩ n.lo∧Got k.L ⟨x,c.a01,c.a11⟩ n.hi
 room:k.ac+(news k.L (rest.flatMap (candL x))).length≤k.c
 hsd:∀ m,k.hs.getD m 0=k0.hs.getD m 0
section
variable {k0 k:KS} {l x y:Nat} {done rest:List Crs} {ext:List Int} {X:List Ent}
theorem low_node (h:XY k0 l x y) (K:KI k0) {cs:List Crs} (hcs:∀ c∈cs,IsCrs k0 l x y c) (hb:Bk k ext X) (hbase:∀ p∈k0.L,(∀ c∈cs,p.2≠c.r)→p∈k.L) {q:Int} (hq:Low k0 l q) :
  0≤q∧tk k.ls q=true∧∀ m,(m,q)∈k.L→(m,q)∈k0.L∧m.v≠x∧m.v≠y:=by
 obtain ⟨xn,yn,lx,ly,xy,ix,iy⟩:=h.facts K
 obtain ⟨q0,qt,ql⟩:=hq
 rcases (K.live q0).1 qt with h1 | h1 | ⟨m,hm⟩
 ·refine ⟨q0,(hb.tkL q0).2 (.inl h1),fun m hm=>?_⟩
  have:=(hb.memL (List.mem_append_left X hm)).1
  omega
 ·refine ⟨q0,(hb.tkL q0).2 (.inr (.inl h1)),fun m hm=>?_⟩
  have:=(hb.memL (List.mem_append_left X hm)).1
  omega
 ·have hlm:=ql m hm
  have hvx:m.v≠x:=fun he=>by rw [he,lx] at hlm;omega
  have hvy:m.v≠y:=fun he=>by rw [he,ly] at hlm;omega
  have hk:=hbase (m,q) hm (fun c hc he=>by
   have hc2:=hcs c hc
   have:=K.uniq (r:=q) hm (by have:=hc2.mem;rwa [← he] at this)
   exact hvx (by rw [this];exact hc2.v))
  refine ⟨q0,(hb.tkL q0).2 (.inr (.inr ⟨m,List.mem_append_left X hk⟩)),fun m' hm'=>?_⟩
  have:=hb.uniq (List.mem_append_left X hm') (List.mem_append_left X hk)
  rw [this]
  exact ⟨hm,hvx,hvy⟩
theorem got_inj (h:XY k0 l x y) (K:KI k0) {cs:List Crs} (hcs:∀ c∈cs,IsCrs k0 l x y c) (hb:Bk k ext X) (hbase:∀ p∈k0.L,(∀ c∈cs,p.2≠c.r)→p∈k.L) {a b a' b' r:Int} (la:Low k0 l a) (la':Low k0 l a')
  (g:Got k.L ⟨x,a,b⟩ r) (g':Got k.L ⟨x,a',b'⟩ r):a=a'∧b=b':=by
 unfold Got at g g'
 split at g
 ·rename_i e1
  simp only at e1 g
  split at g'
  ·rename_i e2
   simp only at e2 g'
   exact ⟨g.symm.trans g',by rw [← e1,← e2];exact g.symm.trans g'⟩
  ·exfalso
   have:=(low_node h K hcs hb hbase la).2.2 _ (by rw [← g];exact g')
   exact this.2.1 rfl
 ·split at g'
  ·rename_i e2
   simp only at e2 g'
   exfalso
   have:=(low_node h K hcs hb hbase la').2.2 _ (by rw [← g'];exact g)
   exact this.2.1 rfl
  ·have:=hb.uniq (List.mem_append_left X g) (List.mem_append_left X g')
   injection this with _ e2 e3
   exact ⟨e2,e3⟩
theorem useOk_of (hb:Bk k ext X) {r:Int} (h0:0≤r) (ht:tk k.ls r=true):UseOk k r:=by
 refine ⟨h0,by have:=hb.lt h0 ht;omega,fun h1=>?_⟩
 rcases (hb.tkL h0).1 ht with h | h | ⟨n,hn⟩
 ·omega
 ·omega
 ·obtain ⟨u,hu,_,hu1,_⟩:=hb.use_lt hn
  exact ⟨u,hu,by omega,by omega⟩
theorem useK_L (k:KS) (r:Int):(useK k r).L=k.L:=(useK_rest (k:=k) (r:=r)).2.2.2.2.2.1
theorem useK_ls (k:KS) (r:Int):(useK k r).ls=k.ls:=(useK_rest (k:=k) (r:=r)).2.2.2.1
theorem useK_ac (k:KS) (r:Int):(useK k r).ac=k.ac:=(useK_rest (k:=k) (r:=r)).2.2.1
theorem useK_hs' (k:KS) (r:Int):(useK k r).hs=k.hs:=(useK_rest (k:=k) (r:=r)).2.2.2.2.2.2.1
theorem t2_step (h:XY k0 l x y) (K:KI k0) {c:Crs} (hcs:∀ d∈done ++ c :: rest,IsCrs k0 l x y d) (hnd:((done ++ c :: rest).map (·.r)).Nodup) (hlen:(done ++ c :: rest).length≤1048576) (t:T2 k0 x y done (c :: rest) k) :
  StepOk k x y c∧T2 k0 x y (done ++ [c]) rest (turnC x y k c):=by
 obtain ⟨xn,yn,lx,ly,xy,ix,iy⟩:=h.facts K
 have hc:=hcs c (by simp)
 have hkn:k.n=k0.n:=congrArg (fun t=>t.1) t.same
 have hkc:k.c=k0.c:=congrArg (fun t=>t.2.1) t.same
 have hb1:=t.bk
 have hkl:(kids (done ++ c :: rest)).length≤2097152:=by rw [kids_len];omega
 have hLl:k.L.length≤1048576:=by
  have h1:=hb1.cnt
  have h2:=hb1.cntl
  have h3:=hb1.lim
  have h4:=hb1.cM
  simp only [List.length_append] at h1
  omega
 -- the first node
 have live:∀ {q:Int},Low k0 l q→0≤q∧tk k.ls q=true:=fun hq=>let w:=low_node h K hcs hb1 t.base hq; ⟨w.1,w.2.1⟩
 have nA:NdOk k ⟨x,c.a00,c.a10⟩:=⟨by simp,by simp only;rw [hkn];omega,(live hc.l00).1,(live hc.l00).2,(live hc.l10).1,(live hc.l10).2⟩
 have hcand:(c :: rest).flatMap (candL x)=⟨x,c.a00,c.a10⟩ :: ⟨x,c.a01,c.a11⟩ :: rest.flatMap (candL x):=rfl
 have hroom:=t.room
 rw [hcand] at hroom
 have r1:c.a00≠c.a10→look k.L ⟨x,c.a00,c.a10⟩=none→k.ac < k.c:=fun hne hl=>by
  have:=news_pos (cands:=(⟨x,c.a00,c.a10⟩:Nd) :: ⟨x,c.a01,c.a11⟩ :: rest.flatMap (candL x)) (List.mem_cons_self ..) hl hne
  omega
 have gA:=getOk hb1 nA r1 (by omega)
 obtain ⟨lo,hlo⟩:∃ lo,(getK k ⟨x,c.a00,c.a10⟩).1=lo:=⟨_,rfl⟩
 obtain ⟨k1,hk1⟩:∃ k1,(getK k ⟨x,c.a00,c.a10⟩).2=k1:=⟨_,rfl⟩
 have hk1s:kst k1=kst k:=by rw [← hk1];exact getK_kst _ _
 obtain ⟨gA1,gA2,gA3,gA4,gA5,gA6,gA7,gA8⟩:=gA
 rw [hlo,hk1] at gA2 gA3
 rw [hk1] at gA1 gA4 gA5 gA6 gA7 gA8
 have u1:UseOk k1 lo:=useOk_of gA1 gA2.1 gA2.2
 have hA:turnA k x c=useK k1 lo:=by unfold turnA;rw [hlo,hk1]
 have hb2:Bk (turnA k x c) (lo :: kids (done ++ c :: rest)) (ents (c :: rest)):=by rw [hA];exact bk_use gA1 gA2.1 gA2.2 (by omega)
 have hAL:(turnA k x c).L=k1.L:=by rw [hA,useK_L]
 have hAls:(turnA k x c).ls=k1.ls:=by rw [hA,useK_ls]
 have hAac:(turnA k x c).ac=k1.ac:=by rw [hA,useK_ac]
 have hAs:kst (turnA k x c)=kst k:=by rw [hA,useK_kst,hk1s]
 have hAn:(turnA k x c).n=k0.n:=(congrArg (fun t=>t.1) hAs).trans hkn
 have hAc:(turnA k x c).c=k.c:=congrArg (fun t=>t.2.1) hAs
 have base2:∀ p∈k0.L,(∀ d∈done ++ c :: rest,p.2≠d.r)→p∈(turnA k x c).L:=fun p hp hq=>by rw [hAL];exact gA4 p (t.base p hp hq)
 -- the second
 have live2:∀ {q:Int},Low k0 l q→0≤q∧tk (turnA k x c).ls q=true:=fun hq=>let w:=low_node h K hcs hb2 base2 hq; ⟨w.1,w.2.1⟩
 have nB:NdOk (turnA k x c) ⟨x,c.a01,c.a11⟩:=⟨by simp,by simp only;rw [hAn];omega,(live2 hc.l01).1,(live2 hc.l01).2,(live2 hc.l11).1,(live2 hc.l11).2⟩
 have room2:=gA6 (⟨x,c.a01,c.a11⟩ :: rest.flatMap (candL x))
 have r2:c.a01≠c.a11→look (turnA k x c).L ⟨x,c.a01,c.a11⟩=none→(turnA k x c).ac < (turnA k x c).c:=fun hne hl=>by
  rw [hAL] at hl
  have:=news_pos (cands:=(⟨x,c.a01,c.a11⟩:Nd) :: rest.flatMap (candL x)) (List.mem_cons_self ..) hl hne
  rw [hAac,hAc]
  omega
 have gB:=getOk hb2 nB r2 (by simp only [List.length_cons];rw [hAL];omega)
 obtain ⟨hi,hhi⟩:∃ hi,(getK (turnA k x c) ⟨x,c.a01,c.a11⟩).1=hi:=⟨_,rfl⟩
 obtain ⟨k2,hk2⟩:∃ k2,(getK (turnA k x c) ⟨x,c.a01,c.a11⟩).2=k2:=⟨_,rfl⟩
 have hk2s:kst k2=kst k:=by rw [← hk2,getK_kst,hAs]
 obtain ⟨gB1,gB2,gB3,gB4,gB5,gB6,gB7,gB8⟩:=gB
 rw [hhi,hk2] at gB2 gB3
 rw [hk2] at gB1 gB4 gB5 gB6 gB7 gB8
 rw [hAL] at gB4 gB5 gB6 gB7
 have u2:UseOk k2 hi:=useOk_of gB1 gB2.1 gB2.2
 have hB:turnB k x c=useK k2 hi:=by unfold turnB;rw [hhi,hk2]
 have hb3:Bk (turnB k x c) (hi :: lo :: kids (done ++ c :: rest)) (ents (c :: rest)):=by
  rw [hB]
  exact bk_use gB1 gB2.1 gB2.2 (by simp only [List.length_cons];omega)
 have hBL:(turnB k x c).L=k2.L:=by rw [hB,useK_L]
 have hBls:(turnB k x c).ls=k2.ls:=by rw [hB,useK_ls]
 have hBac:(turnB k x c).ac=k2.ac:=by rw [hB,useK_ac]
 have hBs:kst (turnB k x c)=kst k:=by rw [hB,useK_kst,hk2s]
 have hBn:(turnB k x c).n=k0.n:=(congrArg (fun t=>t.1) hBs).trans hkn
 have base3:∀ p∈k0.L,(∀ d∈done ++ c :: rest,p.2≠d.r)→p∈(turnB k x c).L:=fun p hp hq=>by rw [hBL];exact gB4 p (gA4 p (t.base p hp hq))
 have gotA:Got (turnB k x c).L ⟨x,c.a00,c.a10⟩ lo:=by rw [hBL];exact gA3.mono gB4
 have gotB:Got (turnB k x c).L ⟨x,c.a01,c.a11⟩ hi:=by rw [hBL];exact gB3
 have loL:0≤lo∧tk (turnB k x c).ls lo=true:=by
  have:=hb3.exl lo (by simp)
  exact this
 have hiL:0≤hi∧tk (turnB k x c).ls hi=true:=hb3.exl hi (by simp)
 have hN:turnN k x y c=⟨y,lo,hi⟩:=by unfold turnN;rw [hlo,hhi]
 have n3:NdOk (turnB k x c) ⟨y,lo,hi⟩:=⟨by simp,by simp only;rw [hBn];omega,loL.1,loL.2,hiL.1,hiL.2⟩
 obtain ⟨m,hrm,m2,_,mls⟩:=hb3.mem c.n c.r (by simp [ents])
 obtain ⟨_,_,cl0,ch0,clt,cht,cne⟩:=K.bk.chl _ _ hc.mem
 -- it is a new one, with unlike children
 have hne:lo≠hi:=by
  rintro rfl
  obtain ⟨e1,e2⟩:=got_inj h K hcs hb3 base3 hc.l00 hc.l01 gotA gotB
  rcases hc.ne with h1 | h1
  ·exact h1 e1
  ·exact h1 e2
 have hsub:∀ p∈k.L,p∈(turnB k x c).L:=fun p hp=>by rw [hBL];exact gB4 p (gA4 p hp)
 have hent3:∀ p∈(turnB k x c).L,p∈k.L∨((p.1=⟨x,c.a00,c.a10⟩∨p.1=⟨x,c.a01,c.a11⟩)∧p.1.lo≠p.1.hi):=fun p hp=>by
  rw [hBL] at hp
  rcases gB5 p hp with h1 | ⟨h1,h2⟩
  ·rcases gA5 p h1 with h3 | ⟨h3,h4⟩
   ·exact .inl h3
   ·exact .inr ⟨.inl h3,by rw [h3];exact h4⟩
  ·exact .inr ⟨.inr h1,by rw [h1];exact h2⟩
 have hyx:(y:Int)≠(x:Int):=by omega
 have hnew:(⟨y,lo,hi⟩:Nd) ∉ keys (turnB k x c).L:=by
  intro hm
  obtain ⟨r,hr⟩:=mem_keys.1 hm
  rcases hent3 _ hr with h1 | ⟨h1 | h1,_⟩
  ·rcases t.ent _ h1 with ⟨h2,_⟩ | ⟨d,_,h2 | h2,_⟩ | ⟨d,hd,_,_,h3,h4⟩
   ·-- a node that was there: its children lie below
    obtain ⟨_,_,a0,b0,at_,bt,_⟩:=K.bk.chl _ _ h2
    have lowlo:Low k0 l lo:=⟨a0,at_,fun m' hm'=>by have:=K.ord.lo _ _ m' h2 hm';simp only at this;rw [ly] at this;exact this⟩
    have lowhi:Low k0 l hi:=⟨b0,bt,fun m' hm'=>by have:=K.ord.hi _ _ m' h2 hm';simp only at this;rw [ly] at this;exact this⟩
    have e1:c.a00=lo∧c.a10=lo:=by
     unfold Got at gotA
     split at gotA
     ·rename_i e;simp only at e gotA;exact ⟨gotA.symm,by rw [← e];exact gotA.symm⟩
     ·exact absurd rfl ((low_node h K hcs hb3 base3 lowlo).2.2 _ gotA).2.1
    have e2:c.a01=hi∧c.a11=hi:=by
     unfold Got at gotB
     split at gotB
     ·rename_i e;simp only at e gotB;exact ⟨gotB.symm,by rw [← e];exact gotB.symm⟩
     ·exact absurd rfl ((low_node h K hcs hb3 base3 lowhi).2.2 _ gotB).2.1
    have:c.n.lo=c.n.hi:=part_inj K cl0 clt ch0 cht (by rw [hc.p0,hc.p1,e1.1,e1.2,e2.1,e2.2])
    exact cne this
   ·injection h2 with e;exact hyx e
   ·injection h2 with e;exact hyx e
   ·have hd':=hcs d (by simp [hd])
    have g3:Got (turnB k x c).L ⟨x,d.a00,d.a10⟩ lo:=Got.mono h3 hsub
    have g4:Got (turnB k x c).L ⟨x,d.a01,d.a11⟩ hi:=Got.mono h4 hsub
    obtain ⟨e1,e2⟩:=got_inj h K hcs hb3 base3 hc.l00 hd'.l00 gotA g3
    obtain ⟨e3,e4⟩:=got_inj h K hcs hb3 base3 hc.l01 hd'.l01 gotB g4
    obtain ⟨_,_,dl0,dh0,dlt,dht,_⟩:=K.bk.chl _ _ hd'.mem
    have f1:c.n.lo=d.n.lo:=part_inj K cl0 clt dl0 dlt (by rw [hc.p0,hd'.p0,e1,e3])
    have f2:c.n.hi=d.n.hi:=part_inj K ch0 cht dh0 dht (by rw [hc.p1,hd'.p1,e2,e4])
    have f3:c.n=d.n:=by
     have v1:=hc.v
     have v2:=hd'.v
     cases hcn:c.n
     cases hdn:d.n
     rw [hcn] at f1 f2 v1
     rw [hdn] at f1 f2 v2
     simp only at f1 f2 v1 v2
     rw [v1,v2,f1,f2]
    have f4:c.r=d.r:=pair_uniq K.bk.kn hc.mem (by rw [f3];exact hd'.mem)
    rw [List.map_append,List.nodup_append] at hnd
    exact hnd.2.2 _ (List.mem_map_of_mem (f:=(·.r)) hd) _ (by simp) f4.symm
  ·injection h1 with e;exact hyx e
  ·injection h1 with e;exact hyx e
 have hcand3:ents (c :: rest)=(c.n,c.r) :: ents rest:=rfl
 rw [hcand3] at hb3
 have hBl:(turnB k x c).L.length≤1048580:=by rw [hBL];omega
 have hfin:=bk_setadd (n:=⟨y,lo,hi⟩) hb3 n3 hne hnew (by omega)
 have hCe:turnC x y k c=addK (setK (turnB k x c) c.r ⟨y,lo,hi⟩) ⟨y,lo,hi⟩ c.r:=by unfold turnC;rw [hN]
 have hCL:(turnC x y k c).L=(turnB k x c).L ++ [(⟨y,lo,hi⟩,c.r)]:=by rw [hCe];exact addL_new ⟨n3.v0,n3.v1⟩ hnew
 have happ:done ++ [c] ++ rest=done ++ c :: rest:=by simp
 refine ⟨⟨⟨_,_,hb1⟩,nA,r1,by rw [hlo,hk1];exact u1,⟨_,_,hb2⟩,nB,r2,by rw [hhi,hk2];exact u2,⟨_,_,hb3⟩,by rw [hN];exact n3,⟨m,_,hrm,m2,mls⟩⟩,?_⟩
 refine ⟨by rw [happ,hCe];exact hfin,?_,?_,?_,?_,?_,?_⟩
 ·rw [turnC_kst];exact t.same
 ·rw [happ]
  intro p hp hq
  rw [hCL]
  exact List.mem_append_left _ (base3 p hp hq)
 ·intro p hp
  rw [happ]
  rw [hCL] at hp
  have hmono:∀ p∈k.L,p∈(turnC x y k c).L:=fun p hp=>by rw [hCL];exact List.mem_append_left _ (hsub p hp)
  rcases List.mem_append.1 hp with hp | hp
  ·rcases hent3 p hp with h1 | ⟨h1,h2⟩
   ·rcases t.ent p h1 with h2 | ⟨d,hd,h2,h3⟩ | ⟨d,hd,h2,h3,h4,h5⟩
    ·exact .inl h2
    ·exact .inr (.inl ⟨d,by simp [hd],h2,h3⟩)
    ·exact .inr (.inr ⟨d,by simp [hd],h2,h3,h4.mono hmono,h5.mono hmono⟩)
   ·exact .inr (.inl ⟨c,by simp,h1,h2⟩)
  ·simp at hp
   subst hp
   refine .inr (.inr ⟨c,by simp,rfl,rfl,?_,?_⟩)
   ·exact gotA.mono (fun p hp=>by rw [hCL];exact List.mem_append_left _ hp)
   ·exact gotB.mono (fun p hp=>by rw [hCL];exact List.mem_append_left _ hp)
 ·intro d hd
  have hm3:∀ p∈(turnB k x c).L,p∈(turnC x y k c).L:=fun p hp=>by rw [hCL];exact List.mem_append_left _ hp
  rcases List.mem_append.1 hd with hd | hd
  ·obtain ⟨n,h1,h2,h3,h4⟩:=t.dn d hd
   exact ⟨n,hm3 _ (hsub _ h1),h2,(h3.mono hsub).mono hm3,(h4.mono hsub).mono hm3⟩
  ·simp at hd
   subst hd
   exact ⟨⟨y,lo,hi⟩,by rw [hCL];simp,rfl,gotA.mono hm3,gotB.mono hm3⟩
 ·have hac:(turnC x y k c).ac=k2.ac:=by rw [hCe];exact hBac
  have hcc:(turnC x y k c).c=k.c:=congrArg (fun t=>t.2.1) (turnC_kst x y k c)
  rw [hac,hcc]
  have h3:=gB6 (rest.flatMap (candL x))
  rw [hAac] at h3
  have h4:=news_mono (L:=k2.L) (L':=(turnC x y k c).L) (cands:=rest.flatMap (candL x)) (cands':=rest.flatMap (candL x)) (fun p hp=>by rw [hCL,hBL];exact List.mem_append_left _ hp) (fun n hn=>hn)
  omega
 ·intro i
  have e1:(turnC x y k c).hs=k2.hs:=by rw [hCe];show (turnB k x c).hs=_;rw [hB,useK_hs']
  rw [e1,gB8,hA,useK_hs',gA8]
  exact t.hsd i
end
section
variable {k0 k:KS} {l x y:Nat} {done rest:List Crs} {ext:List Int} {X:List Ent}
theorem pos_less {k:KS} {r:Int} (hp:Pos k) (h1:1 < k.us.getD r.toNat 0):Pos (lessK k r):=by
 intro n q hq
 have hq':(n,q)∈k.L:=hq
 show 0 < (k.us.set r.toNat (k.us.getD r.toNat 0 - 1)).getD q.toNat 0
 by_cases hlt:r.toNat < k.us.length
 ·rw [getD_set hlt]
  split
  ·omega
  ·exact hp n q hq'
 ·rw [List.set_eq_of_length_le (by omega)]
  exact hp n q hq'
theorem relF_bk:∀ (f:Nat) (k:KS) (st ext:List Int),Bk k (st ++ ext) []→Pos k→3 * k.L.length+st.length≤f →
  Bk (relF f k st) ext []∧Pos (relF f k st)∧(∀ p∈(relF f k st).L,p∈k.L)∧(relF f k st).hs=k.hs
 | 0,k,st,ext,hb,hp,hf=>by
  have:st=[]:=List.eq_nil_of_length_eq_zero (by omega)
  subst this
  exact ⟨hb,hp,fun p h=>h,rfl⟩
 | _+1,k,[],ext,hb,hp,_=>⟨hb,hp,fun p h=>h,rfl⟩
 | f+1,k,r :: st,ext,hb,hp,hf=>by
  simp only [List.length_cons] at hf
  have hb':Bk k (r :: (st ++ ext)) []:=hb
  obtain ⟨h0,ht⟩:=hb'.exl r (List.mem_cons_self ..)
  unfold relF
  split
  ·rename_i h1
   exact relF_bk f k st ext (bk_const hb' h1) hp (by omega)
  ·rename_i h1
   split
   ·rename_i hu
    have hl:=bk_less hb' (by omega)
    obtain ⟨a,b,c,d⟩:=relF_bk f (lessK k r) st ext hl (pos_less hp hu) (by show 3 * k.L.length+_≤_;omega)
    exact ⟨a,b,c,d⟩
   ·rename_i hu
    obtain ⟨n,hm⟩:∃ n,(n,r)∈k.L:=by
     rcases (hb'.tkL h0).1 ht with h | h | ⟨n,h⟩
     ·omega
     ·omega
     ·exact ⟨n,by simpa using h⟩
    have hg:getN k.ls r=n:=(hb'.memL (List.mem_append_left [] hm)).2.1
    rw [hg]
    have hl:=bk_less hb' (by omega)
    have hlast:=bk_last hb' hm hu
    have hlen:=(perm_without hb'.kn hm).length_eq
    have hL:(freeK (remK (lessK k r) n) r).L=without n k.L:=(remK_L hl hm).1
    simp only [List.length_cons] at hlen
    have hpos:Pos (freeK (remK (lessK k r) n) r):=by
     intro m q hq
     rw [hL] at hq
     unfold without at hq
     obtain ⟨hq1,hq2⟩:=List.mem_filter.1 hq
     have hqr:q≠r:=by
      rintro rfl
      have:=hb'.uniq (List.mem_append_left [] hq1) (List.mem_append_left [] hm)
      subst this
      simp at hq2
     have h2:=(hb'.memL (List.mem_append_left [] hq1)).1
     show 0 < (k.us.set r.toNat (k.us.getD r.toNat 0 - 1)).getD q.toNat 0
     by_cases hlt:r.toNat < k.us.length
     ·rw [getD_set hlt,if_neg (by omega)]
      exact hp m q hq1
     ·rw [List.set_eq_of_length_le (by omega)]
      exact hp m q hq1
    obtain ⟨a,b,c,d⟩:=relF_bk f (freeK (remK (lessK k r) n) r) (n.hi :: n.lo :: st) ext hlast hpos (by rw [hL];simp only [List.length_cons];omega)
    refine ⟨a,b,fun p hp=>?_,d⟩
    have:=c p hp
    rw [hL] at this
    unfold without at this
    exact (List.mem_filter.1 this).1
theorem relK_bk {r:Int} (hb:Bk k (r :: ext) []) (hp:Pos k):Bk (relK k r) ext []∧Pos (relK k r)∧(∀ p∈(relK k r).L,p∈k.L)∧(relK k r).hs=k.hs:=by
 refine relF_bk _ k [r] ext hb hp ?_
 have:=hb.cnt
 simp only [List.append_nil] at this
 simp only [List.length_cons,List.length_nil]
 omega
theorem turn3_bk:∀ (cs:List Crs) (k:KS) (ext:List Int),Bk k (kids cs ++ ext) []→Pos k→Bk (turn3 k cs) ext []∧Pos (turn3 k cs)∧(∀ p∈(turn3 k cs).L,p∈k.L)∧(turn3 k cs).hs=k.hs
 | [],k,ext,hb,hp=>⟨hb,hp,fun p h=>h,rfl⟩
 | c :: cs,k,ext,hb,hp=>by
  obtain ⟨a1,a2,a3,a4⟩:=relK_bk (k:=k) (r:=c.n.lo) (ext:=c.n.hi :: (kids cs ++ ext)) hb hp
  obtain ⟨b1,b2,b3,b4⟩:=relK_bk (r:=c.n.hi) a1 a2
  obtain ⟨c1,c2,c3,c4⟩:=turn3_bk cs _ ext b1 b2
  exact ⟨c1,c2,fun p hp=>a3 p (b3 p (c3 p hp)),c4.trans (b4.trans a4)⟩
theorem crsT_len (K:KI k0) (x y:Int):(crsT k0 x y).length≤1048576:=by
 have h1:((crsT k0 x y).map (·.r)).length≤(rising (ofv k0.L x.toNat)).length:=by rw [crsT_r];exact List.length_filter_le _ _
 rw [List.length_map,rising_len] at h1
 have h2:(ofv k0.L x.toNat).length≤k0.L.length:=List.length_filter_le _ _
 have h3:=K.bk.cnt
 have h4:=K.bk.cntl
 have h5:=K.bk.lim
 have h6:=K.bk.cM
 simp only [List.length_append] at h3
 omega
theorem crs_nodup_n (h:XY k0 l x y) (K:KI k0):((crsT k0 x y).map (·.n)).Nodup:=by
 have h1:=crsT_nodup K (x:Int) (y:Int)
 rw [List.Nodup,List.pairwise_map] at h1 ⊢
 refine h1.imp_of_mem (fun {a b} ha hb hab he=>hab ?_)
 have ma:=(crsT_mem h K ha).mem
 have mb:=(crsT_mem h K hb).mem
 rw [← he] at mb
 exact pair_uniq K.bk.kn ma mb
theorem t2_start (h:XY k0 l x y) (K:KI k0) (hR:turnR k0 x y=true):T2 k0 x y [] (crsT k0 x y) (turn1 k0 (crsT k0 x y)):=by
 have hcs:=fun c (hc:c∈crsT k0 x y)=>crsT_mem h K hc
 obtain ⟨xn,yn,lx,ly,xy,ix,iy⟩:=h.facts K
 have hlen:=crsT_len K (x:Int) (y:Int)
 have hLl:k0.L.length≤1048576:=by
  have h3:=K.bk.cnt
  have h4:=K.bk.cntl
  have h5:=K.bk.lim
  have h6:=K.bk.cM
  simp only [List.length_append] at h3
  omega
 obtain ⟨a1,a2,a3,a4,a5⟩:=turn1_bk (crsT k0 x y) k0 [] [] K.bk (fun c hc=>(hcs c hc).mem) (crs_nodup_n h K) (by simp only [List.length_nil];omega)
 rw [List.append_nil,List.append_nil] at a1
 have hback:∀ p∈k0.L,(∀ c∈crsT k0 x y,p.2≠c.r)→p∈(turn1 k0 (crsT k0 x y)).L:=fun p hp hq =>
  (a2 p).2 ⟨hp,fun c hc he=>hq c hc (pair_uniq K.bk.kn (n:=p.1) hp (by rw [he];exact (hcs c hc).mem))⟩
 refine ⟨a1,a5,hback,fun p hp=>?_,(fun c hc=>by cases hc),?_,(fun m=>by rw [a3])⟩
 ·obtain ⟨b1,b2⟩:=(a2 p).1 hp
  refine .inl ⟨b1,fun c hc he=>b2 c hc ?_⟩
  exact K.uniq (r:=p.2) b1 (by rw [he];exact (hcs c hc).mem)
 ·have hr:k0.ac+(news k0.L ((crsT k0 x y).flatMap (candL x))).length≤k0.c:=by
   have:=of_decide_eq_true hR
   rwa [freshL_news] at this
  have hc:(turn1 k0 (crsT k0 x y)).c=k0.c:=congrArg (fun t=>t.2.1) a5
  rw [a4,hc]
  have hle:(news (turn1 k0 (crsT k0 x y)).L ((crsT k0 x y).flatMap (candL x))).length≤(news k0.L ((crsT k0 x y).flatMap (candL x))).length:=by
   refine nodup_len (news_nodup _ _) (fun n hn=>?_)
   obtain ⟨n1,n2,n3⟩:=mem_news.1 hn
   refine mem_news.2 ⟨n1,?_,n3⟩
   rw [look_none] at n2 ⊢
   intro hk
   obtain ⟨r,hr⟩:=mem_keys.1 hk
   refine n2 (mem_keys.2 ⟨r,(a2 _).2 ⟨hr,fun d hd he=>?_⟩⟩)
   simp only at he
   -- a candidate is no crossing
   obtain ⟨c,hc,hcand⟩:=List.mem_flatMap.1 n1
   have hC:=hcs c hc
   have hD:=hcs d hd
   have hlow:Low k0 l n.lo∧Low k0 l n.hi:=by
    simp only [candL,List.mem_cons,List.not_mem_nil,or_false] at hcand
    rcases hcand with rfl | rfl
    ·exact ⟨hC.l00,hC.l10⟩
    ·exact ⟨hC.l01,hC.l11⟩
   rw [he] at hlow
   have noy:∀ q,Low k0 l q→(partsK k0 q y).1=(partsK k0 q y).2:=by
    intro q hq
    rcases part_cases (y:=y) K hq.1 hq.2.1 with ⟨m,hm,hmy,_⟩ | ⟨_,_,hp⟩
    ·have:=hq.2.2 m hm
     rw [hmy,ly] at this
     omega
    ·rw [hp]
   have e1:=noy _ hlow.1
   have e2:=noy _ hlow.2
   rw [hD.p0] at e1
   rw [hD.p1] at e2
   rcases hD.ne with h1 | h1
   ·exact h1 e1
   ·exact h1 e2
  omega
theorem t2_take (h:XY k0 l x y) (K:KI k0) (hR:turnR k0 x y=true):∀ (i:Nat),i≤(crsT k0 x y).length →
  T2 k0 x y ((crsT k0 x y).take i) ((crsT k0 x y).drop i) (turn2 (turn1 k0 (crsT k0 x y)) x y ((crsT k0 x y).take i)) ∧
  (∀ c,(crsT k0 x y)[i]?=some c→StepOk (turn2 (turn1 k0 (crsT k0 x y)) x y ((crsT k0 x y).take i)) x y c):=by
 intro i
 have hstep:∀ i c,(crsT k0 x y)[i]?=some c→T2 k0 x y ((crsT k0 x y).take i) ((crsT k0 x y).drop i) (turn2 (turn1 k0 (crsT k0 x y)) x y ((crsT k0 x y).take i)) →
   StepOk (turn2 (turn1 k0 (crsT k0 x y)) x y ((crsT k0 x y).take i)) x y c∧T2 k0 x y ((crsT k0 x y).take i ++ [c]) ((crsT k0 x y).drop (i+1)) (turnC x y (turn2 (turn1 k0 (crsT k0 x y)) x y ((crsT k0 x y).take i)) c):=by
  intro i c hc ht
  have hlt:=lt_of_get hc
  have hd:(crsT k0 x y).drop i=c :: (crsT k0 x y).drop (i+1):=by
   rw [List.drop_eq_getElem_cons hlt]
   congr 1
   rw [List.getElem?_eq_getElem hlt] at hc
   injection hc
  rw [hd] at ht
  have hall:(crsT k0 x y).take i ++ c :: (crsT k0 x y).drop (i+1)=crsT k0 x y:=by rw [← hd,List.take_append_drop]
  refine t2_step h K (fun d hd=>crsT_mem h K (by rwa [hall] at hd)) (by rw [hall];exact crsT_nodup K _ _) (by rw [hall];exact crsT_len K _ _) ht
 induction i with
 | zero =>
  intro _
  have hs:T2 k0 x y ((crsT k0 x y).take 0) ((crsT k0 x y).drop 0) (turn2 (turn1 k0 (crsT k0 x y)) x y ((crsT k0 x y).take 0)):=t2_start h K hR
  exact ⟨hs,fun c hc=>(hstep 0 c hc hs).1⟩
 | succ i ih =>
  intro hi
  obtain ⟨t,_⟩:=ih (by omega)
  obtain ⟨c,hc⟩:∃ c,(crsT k0 x y)[i]?=some c:=⟨_,List.getElem?_eq_getElem (by omega)⟩
  have h2:=(hstep i c hc t).2
  have e1:(crsT k0 x y).take (i+1)=(crsT k0 x y).take i ++ [c]:=by rw [List.take_add_one,hc];rfl
  have e2:turn2 (turn1 k0 (crsT k0 x y)) x y ((crsT k0 x y).take (i+1))=turnC x y (turn2 (turn1 k0 (crsT k0 x y)) x y ((crsT k0 x y).take i)) c:=foldl_take _ _ hc
  have hs:T2 k0 x y ((crsT k0 x y).take (i+1)) ((crsT k0 x y).drop (i+1)) (turn2 (turn1 k0 (crsT k0 x y)) x y ((crsT k0 x y).take (i+1))):=by rw [e1,e2] at *;exact h2
  exact ⟨hs,fun c hc=>(hstep (i+1) c hc hs).1⟩
theorem t2_end (h:XY k0 l x y) (K:KI k0) (hR:turnR k0 x y=true):T2 k0 x y (crsT k0 x y) [] (turn2 (turn1 k0 (crsT k0 x y)) x y (crsT k0 x y)):=by
 have:=(t2_take h K hR (crsT k0 x y).length (Nat.le_refl _)).1
 rwa [List.take_length,List.drop_length] at this
theorem par_pos {L:List Ent} {p:Ent} {r:Int} (hp:p∈L) (hr:p.1.lo=r∨p.1.hi=r):0 < par L r:=by
 rcases Nat.eq_zero_or_pos (par L r) with h | h
 ·obtain ⟨a,b⟩:=par_zero.1 h p hp
  rcases hr with h | h
  ·exact absurd h a
  ·exact absurd h b
 ·exact h
theorem t2_pos (h:XY k0 l x y) (K:KI k0) (t:T2 k0 x y (crsT k0 x y) [] k):Pos k:=by
 intro n r hn
 have hb:=t.bk
 have happ:crsT k0 x y ++ []=crsT k0 x y:=List.append_nil _
 rw [happ] at hb
 obtain ⟨hu,_⟩:=hb.usR (List.mem_append_left _ hn)
 rw [hu]
 rcases Nat.eq_zero_or_pos (par k.L r+(if k.hs.getD r.toNat 0=0 then 0 else 1)+(kids (crsT k0 x y)).count r) with h0 | h0
 ·exfalso
  have hp0:par k.L r=0:=by omega
  have hk0:(kids (crsT k0 x y)).count r=0:=by omega
  have hh0:k.hs.getD r.toNat 0=0:=by
   by_cases hh:k.hs.getD r.toNat 0=0
   ·exact hh
   ·rw [if_neg hh] at h0;omega
  have old:∀ m,(m,r)∈k0.L→False:=by
   intro m hm
   have h1:=K.pos m r hm
   obtain ⟨h2,_⟩:=K.bk.usR (List.mem_append_left [] hm)
   rw [h2,← t.hsd,hh0] at h1
   simp only [if_true,List.count_nil] at h1
   have h3:0 < par k0.L r:=by omega
   obtain ⟨p,hp,hpr⟩:∃ p∈k0.L,p.1.lo=r∨p.1.hi=r:=by
    refine Classical.byContradiction (fun hno=>?_)
    have:=par_zero.2 (fun p hp=>⟨fun e=>hno ⟨p,hp,.inl e⟩,fun e=>hno ⟨p,hp,.inr e⟩⟩:∀ p∈k0.L,p.1.lo≠r∧p.1.hi≠r)
    omega
   by_cases hc:∃ c∈crsT k0 x y,p.2=c.r
   ·obtain ⟨c,hc1,hc2⟩:=hc
    have he:=K.uniq (r:=p.2) hp (by rw [hc2];exact (crsT_mem h K hc1).mem)
    have:r∈kids (crsT k0 x y):=by
     unfold kids
     refine List.mem_flatMap.2 ⟨c,hc1,?_⟩
     rw [he] at hpr
     simp
     rcases hpr with e | e
     ·exact .inl e.symm
     ·exact .inr e.symm
    exact absurd this (List.count_eq_zero.1 hk0)
   ·have:=par_pos (t.base p hp (fun c hc1 he=>hc ⟨c,by rwa [happ] at hc1,he⟩)) hpr
    omega
  rcases t.ent _ hn with ⟨h1,_⟩ | ⟨c,hc,h1,h2⟩ | ⟨c,hc,h1,_⟩
  ·exact old n h1
  ·obtain ⟨m,m1,_,m3,m4⟩:=t.dn c hc
   simp only at h1 h2
   have:m.lo=r∨m.hi=r:=by
    rcases h1 with rfl | rfl
    ·left
     unfold Got at m3
     rw [if_neg h2] at m3
     exact pair_uniq hb.kn m3 hn
    ·right
     unfold Got at m4
     rw [if_neg h2] at m4
     exact pair_uniq hb.kn m4 hn
   have:=par_pos m1 this
   omega
  ·simp only at h1
   exact old c.n (by rw [h1];exact (crsT_mem h K hc).mem)
 ·omega
theorem turn_ok (h:XY k0 l x y) (K:KI k0):TurnOk k0 l x y:=by
 obtain ⟨xn,yn,lx,ly,xy,ix,iy⟩:=h.facts K
 have hLl:k0.L.length≤1048576∧k0.c≤1048576:=by
  have h3:=K.bk.cnt
  have h4:=K.bk.cntl
  have h5:=K.bk.lim
  have h6:=K.bk.cM
  simp only [List.length_append] at h3
  omega
 have hcs:=fun c (hc:c∈crsT k0 x y)=>crsT_mem h K hc
 have hlow:∀ q,Low k0 l q→0≤q∧q < 4294967296:=fun q hq=>⟨hq.1,by have:=K.bk.lt hq.1 hq.2.1;omega⟩
 refine ⟨h.hx,h.hy,xn,yn,xy,K.bk.n64,by omega,by omega,?_,?_,?_,?_,by rw [K.lv.ll];exact xn,by rw [K.lv.ll];exact yn⟩
 ·intro r hr
  obtain ⟨n,hn⟩:=mem_rising.1 hr
  have hn1:=(List.mem_filter.1 hn).1
  have hm:=K.mem' hn1
  have hlt:=K.bk.lt (by omega) hm.2.2
  obtain ⟨_,_,a,b,c,d⟩:=K.bk.nodeV r rfl
  exact ⟨by omega,by omega,a,by omega,b,by omega⟩
 ·intro c hc
  have hC:=hcs c hc
  obtain ⟨v0,v1,l0,h0,lt,ht,_⟩:=K.bk.chl _ _ hC.mem
  have hl:=K.bk.lt l0 lt
  have hh:=K.bk.lt h0 ht
  have:=K.bk.n64
  exact ⟨⟨hlow _ hC.l00,hlow _ hC.l01,hlow _ hC.l10,hlow _ hC.l11⟩,Nd.ok_of v0 (by omega) l0 (by omega) h0 (by omega),l0,by omega,h0,by omega⟩
 ·intro hR i c hc
  exact (t2_take h K hR i (Nat.le_of_lt (lt_of_get hc))).2 c hc
 ·intro hR i c hc
  have hlt:=lt_of_get hc
  have t:=t2_end h K hR
  have hp:=t2_pos h K t
  have hb:=t.bk
  rw [List.append_nil] at hb
  have hd:(crsT k0 x y).drop i=c :: (crsT k0 x y).drop (i+1):=by
   rw [List.drop_eq_getElem_cons hlt]
   congr 1
   rw [List.getElem?_eq_getElem hlt] at hc
   injection hc
  have hk:kids (crsT k0 x y)=kids ((crsT k0 x y).take i) ++ kids ((crsT k0 x y).drop i):=by rw [← kids_append,List.take_append_drop]
  have hb':Bk (turn2 (turn1 k0 (crsT k0 x y)) x y (crsT k0 x y)) (kids ((crsT k0 x y).take i) ++ kids ((crsT k0 x y).drop i)) []:=by rw [← hk];exact hb
  obtain ⟨a1,a2,_,_⟩:=turn3_bk _ _ _ hb' hp
  rw [hd] at a1
  have a1':Bk (turn3 (turn2 (turn1 k0 (crsT k0 x y)) x y (crsT k0 x y)) ((crsT k0 x y).take i)) (c.n.lo :: (c.n.hi :: kids ((crsT k0 x y).drop (i+1)))) []:=a1
  exact ⟨⟨_,a1'⟩,⟨_,(relK_bk a1' a2).1⟩⟩
end
def newK (n c:Nat):KS:=⟨n,c,2,l01,[],[],[],[],rng n,rng n,[]⟩
section
variable {w:World}
theorem knew_bad (n c:Int) (h:n < 1∨64 < n∨c < 2∨1048576 < c):Calls Tryz.prog 13 #[.int .i64 n,.int .i64 c] w fun e w'=>e=.returned (.tuple #[.pointer none,.int .i64 1])∧Same w w':=by
 have hid:=Identity_any n w
 by_cases h1:n < 0∨64 < n
 ·have he:idE n=1:=by unfold idE;rw [if_pos h1]
  rw [he] at hid
  have HI:=Lib.hid hid
  clear hid h h1 he
  go_enter Tryz.func13,Tryz.ntmps13
  go_wp2_with (fail)
  refine HI.out.mono ?_
  rintro e w1 ⟨A,C,rfl,hN⟩
  go_wp2
  go_ret2
  exact ⟨rfl,hN.2.2⟩
 ·have he:idE n=0:=by unfold idE;rw [if_neg h1]
  rw [he] at hid
  have HI:=Lib.hid hid
  clear hid he
  by_cases h2:n < 1
  ·clear h h1
   go_enter Tryz.func13,Tryz.ntmps13
   go_wp2_with (fail)
   refine HI.out.mono ?_
   rintro e w1 ⟨A,C,rfl,hN⟩
   go_wp2
   go_ret2
   exact ⟨rfl,hN.2.2⟩
  ·by_cases h3:c < 2
   ·clear h h1
    go_enter Tryz.func13,Tryz.ntmps13
    go_wp2_with (fail)
    refine HI.out.mono ?_
    rintro e w1 ⟨A,C,rfl,hN⟩
    go_wp2
    go_ret2
    exact ⟨rfl,hN.2.2⟩
   ·have h4:c > 1048576:=by omega
    clear h h1
    go_enter Tryz.func13,Tryz.ntmps13
    go_wp2_with (fail)
    refine HI.out.mono ?_
    rintro e w1 ⟨A,C,rfl,hN⟩
    go_wp2
    go_ret2
    exact ⟨rfl,hN.2.2⟩
theorem knewstore_any (c:Int) (t:Nat) (h1:¬ c < 2) (h2:c≤1048576) :
  Calls Tryz.prog 53 #[.int .i64 c,.pointer (some ⟨t,0,none⟩)] w fun e w'=>∃ g A C,e=.returned (.tuple #[.agg #[.pointer (some ⟨g,0,none⟩),.pointer (some ⟨t,0,none⟩),.slice none 0 0,.slice none 0 0],.int .i64 0])∧ASt w' g c 2 l01 [] A C none 0∧Same w w'∧w.heap.size≤g∧Fresh w.heap.size A:=by
 have hn:=fun w=>new_ok c w h1 h2
 have HN:=Lib.hid hn
 clear hn
 go_enter Tryz.func53,Tryz.ntmps53
 go_wp2_with (fail)
 refine call_world fun w1 hw1=>?_
 have hs1:Same w w1:=by rw [hw1];exact (Frm.refl _ _).alloc _
 have hX:Blk w1 w.heap.size 96 #[.pointer none,.pointer none,.slice none 0 0,.slice none 0 0]:=by rw [hw1];exact Blk.new w _ _
 have hsz:w1.heap.size=w.heap.size+1:=by rw [hw1];simp
 clear hw1
 refine (HN.out _).mono ?_
 rintro e w2 ⟨rfl,A,C,hA,hs2,hF⟩
 have hX2:=hX.frm hs2 id
 have x0:=hX2.cell 0
 have x1:=hX2.cell 1
 have x2:=hX2.cell 2
 have x3:=hX2.cell 3
 have f0:=hX2.free 0
 have f1:=hX2.free 1
 have f2:=hX2.free 2
 have f3:=hX2.free 3
 have hxl:=hX2.lt
 simp at x0 x1 x2 x3
 have HX:=Lib.hid hX2
 have HS:=Lib.hid (hs1.trans hs2 (fun _ _ h=>h))
 have HA:=Lib.hid hA
 have HF:=Lib.hid hF
 have HSZ:=Lib.hid hsz
 clear hX hX2 hs1 hs2 hA hF hsz
 go_wp2
 have hle:w.heap.size≤w.heap.size:=Nat.le_refl _
 refine bodyPost_ret (v:=.tuple #[.agg #[.pointer (some ⟨w1.heap.size,0,none⟩),.pointer (some ⟨t,0,none⟩),.slice none 0 0,.slice none 0 0],.int .i64 0]) ?_ rfl ⟨w1.heap.size,A,C,rfl,?_,?_,?_,?_⟩
 ·have hY:=(((HX.out.set 0 (.pointer (some ⟨w1.heap.size,0,none⟩))).set 1 (.pointer (some ⟨t,0,none⟩))).set 2 (.slice none 0 0)).set 3 (.slice none 0 0)
  generalize (((w2.setCell ⟨w.heap.size,0,none⟩ (.pointer (some ⟨w1.heap.size,0,none⟩))).setCell ⟨w.heap.size,1,none⟩ (.pointer (some ⟨t,0,none⟩))).setCell ⟨w.heap.size,2,none⟩ (.slice none 0 0)).setCell ⟨w.heap.size,3,none⟩ (.slice none 0 0)=W at hY ⊢
  have y0:=hY.cell 0
  have y1:=hY.cell 1
  have y2:=hY.cell 2
  have y3:=hY.cell 3
  simp at y0 y1 y2 y3
  simp [results,Tryz.results53,go_sem,y0,y1,y2,y3]
 ·have hF:Frm (fun b=>b=w.heap.size) w2 ((((w2.setCell ⟨w.heap.size,0,none⟩ (.pointer (some ⟨w1.heap.size,0,none⟩))).setCell ⟨w.heap.size,1,none⟩ (.pointer (some ⟨t,0,none⟩))).setCell ⟨w.heap.size,2,none⟩ (.slice none 0 0)).setCell ⟨w.heap.size,3,none⟩ (.slice none 0 0)) :=
   ((((Frm.refl (fun b=>b=w.heap.size) w2).set _ _ rfl).set _ _ rfl).set _ _ rfl).set _ _ rfl
  refine HA.out.frm hF ?_
  rintro b hb rfl
  have hz:=HSZ.out
  rcases hb with hb | hb | hb
  ·omega
  ·have:=HF.out _ hb;omega
  ·obtain ⟨_,hx,_⟩:=hb;cases hx
 ·exact (((HS.out.setNew _ _ hle).setNew _ _ hle).setNew _ _ hle).setNew _ _ hle
 ·have:=HSZ.out;omega
 ·intro b hb
  have h1:=HSZ.out
  have h2:=HF.out b hb
  omega
theorem knew_any (n c:Nat) (h1:1≤n) (h2:n≤64) (h3:2≤c) (h4:c≤1048576):Calls Tryz.prog 13 #[.int .i64 n,.int .i64 c] w fun e w'=>∃ kp a,e=.returned (.tuple #[.pointer (some ⟨kp,0,none⟩),.int .i64 0])∧KW w' kp (newK n c) a∧Same w w'∧∀ b,KFp n kp a b→w.heap.size≤b:=by
 have hid:=Identity_any n w
 have he:idE n=0:=by unfold idE;rw [if_neg (by omega)]
 have hr:idR n=rng n:=by unfold idR;rw [if_neg (by omega),Int.toNat_natCast]
 rw [he,hr] at hid
 have hun:=fun w=>uqnew_any n h1 h2 w
 have hst:=fun w t=>knewstore_any (w:=w) c t (by omega) (by omega)
 have hcl:=fun w A C (h:IL w A n (rng n))=>clone_any A n C (rng n) w h (by omega)
 have HI:=Lib.hid hid
 have HU:=Lib.hid hun
 have HST:=Lib.hid hst
 have HCL:=Lib.hid hcl
 have n1:¬ (n:Int) < 1:=by omega
 have n2:¬ (c:Int) < 2:=by omega
 have n3:¬ (c:Int) > 1048576:=by omega
 have hrl:=rng_len n
 have HRL:=Lib.hid hrl
 clear hid he hr hun hst hcl hrl
 go_enter Tryz.func13,Tryz.ntmps13
 go_wp2_with (fail)
 refine HI.out.mono ?_
 rintro e w1 ⟨oA,oC,rfl,hO,hOF,hs1⟩
 rw [HRL.out] at hO
 have HO:=Lib.hid hO
 have HOF:=Lib.hid hOF
 have HS1:=Lib.hid hs1
 clear hO hOF hs1
 rw [HRL.out]
 go_wp2_with (fail)
 refine (HU.out _).mono ?_
 rintro e w2 ⟨U,rfl,hs2,hut,hU1,hU2,hU3⟩
 have HS2:=Lib.hid hs2
 have HUT:=Lib.hid hut
 have HU1:=Lib.hid hU1
 have HU2:=Lib.hid hU2
 have HU3:=Lib.hid hU3
 clear hs2 hut hU1 hU2 hU3
 go_wp2_with (fail)
 refine (HST.out _ _).mono ?_
 rintro e w3 ⟨g,A,C,rfl,hA,hs3,hg,hAF⟩
 have HS3:=Lib.hid hs3
 have HA:=Lib.hid hA
 have HGL:=Lib.hid hg
 have HAF:=Lib.hid hAF
 clear hs3 hA hg hAF
 go_upto_region 10 with fail
 refine wp_world fun w4 hw4=>?_
 have hX:=Blk.new w3 96 #[.pointer (some ⟨g,0,none⟩),.pointer (some ⟨U.T,0,none⟩),.slice none 0 0,.slice none 0 0]
 have hs4:Same w3 w4:=by rw [hw4];exact (Frm.refl _ _).alloc _
 rw [← hw4] at hX
 clear hw4
 have x0:=hX.cell 0
 have x1:=hX.cell 1
 have x2:=hX.cell 2
 have x3:=hX.cell 3
 have hxl:=hX.lt
 simp at x0 x1 x2 x3
 have hs14:=(HS2.out.trans HS3.out (fun _ _ h=>h)).trans hs4 (fun _ _ h=>h)
 have hcl:=fun w' (hw:Same w4 w')=>HCL.out w' oA oC ((HO.out.frm (hs14.trans hw (fun _ _ h=>h)) (fun _ _=>id)).il)
 have HCL4:=Lib.hid hcl
 have HS4:=Lib.hid hs4
 have HS14:=Lib.hid hs14
 clear hX hs4 hs14 hcl HCL HST HU HI
 refine wp_phS (fun _=>False) [([0,1,2,3],4),([5],6),([7],8)] (by kernel_rfl) (by kernel_rfl) ?_
 simp only [wpPh,pick,List.map_cons,List.map_nil,List.getD_cons_zero,List.getD_cons_succ]
 repeat (any_goals (first | go_big_quiet_step (fail) | quiet_step (fail)))
 refine wpQuiet_nil ?_
 refine effStep_plain rfl fun K hK=>?_
 go_simp
 refine (HCL4.out _ ((Frm.refl _ _).drew)).mono ?_
 rintro e w5 ⟨lA,lC,rfl,hL,hLF,hs5⟩
 rw [HRL.out] at hL
 rw [HRL.out]
 have hs45:Same w4 w5:=(Frm.refl _ _).drew.trans hs5 (fun _ _ h=>h)
 refine hK _ _ (Lat.mk_ hs45) ?_
 clear hK K hs5
 repeat (any_goals (first | go_big_quiet_step (fail) | quiet_step (fail)))
 refine wpQuiet_nil ?_
 refine effStep_plain rfl fun K hK=>?_
 go_simp
 have hs56:=hs45.alloc (.cells #[.pointer (some ⟨g,0,none⟩),.pointer (some ⟨U.T,0,none⟩),.slice none 0 0,.slice none 0 0,.int .i64 n,.slice oA n oC,.slice lA n lC,.slice none 0 0] 100)
 refine hK _ _ (Lat.mk_ hs56) ?_
 clear hK K
 have hB:=Blk.new w5 100 #[.pointer (some ⟨g,0,none⟩),.pointer (some ⟨U.T,0,none⟩),.slice none 0 0,.slice none 0 0,.int .i64 n,.slice oA n oC,.slice lA n lC,.slice none 0 0]
 have hL6:=hL.frm ((Frm.refl (fun _=>False) w5).alloc (.cells #[.pointer (some ⟨g,0,none⟩),.pointer (some ⟨U.T,0,none⟩),.slice none 0 0,.slice none 0 0,.int .i64 n,.slice oA n oC,.slice lA n lC,.slice none 0 0] 100)) (fun _ _=>id)
 have hz6:=Lib.hid (show w5.heap.size < (w5.alloc (.cells #[.pointer (some ⟨g,0,none⟩),.pointer (some ⟨U.T,0,none⟩),.slice none 0 0,.slice none 0 0,.int .i64 n,.slice oA n oC,.slice lA n lC,.slice none 0 0] 100)).heap.size by simp)
 generalize w5.alloc (.cells #[.pointer (some ⟨g,0,none⟩),.pointer (some ⟨U.T,0,none⟩),.slice none 0 0,.slice none 0 0,.int .i64 n,.slice oA n oC,.slice lA n lC,.slice none 0 0] 100)=w6 at *
 have HB:=Lib.hid hB
 have HL6:=Lib.hid hL6
 have HLF:=Lib.hid hLF
 have HS45:=Lib.hid hs45
 have HS56:=Lib.hid hs56
 have HLB:Hid (∀ b,rowOf lA b→b < w5.heap.size):=Lib.hid (fun b hb=>Own.rlt hL hb)
 clear hB hL hL6 hLF hs45 hs56
 repeat (any_goals (first | go_big_quiet_step (fail) | quiet_step (fail)))
 refine wpQuiet_nil ?_
 go_wp2
 go_ret2
 have hs26:=(HS3.out.trans HS4.out (fun _ _ h=>h)).trans HS56.out (fun _ _ h=>h)
 have hs36:=HS4.out.trans HS56.out (fun _ _ h=>h)
 have hs16:=HS2.out.trans hs26 (fun _ _ h=>h)
 have z1:=HS1.out.size
 have z2:=HS2.out.size
 have z3:=HS3.out.size
 have z4:=HS4.out.size
 have z5:=HS45.out.size
 have hut6:=HUT.out.same hs26
 have ha6:=HA.out.frm hs36 (fun _ _=>id)
 have hUTn:U.T≠U.sb:=by
  intro he
  have h0:=hut6.s 0 (by omega)
  rw [← he,hut6.t.cell 0] at h0
  cases h0
 have hap:=HA.out.apart
 refine ⟨w5.heap.size,⟨g,A,C,none,0,U,none,0,none,0,oA,oC,lA,lC,none,0⟩,rfl,⟨?_,ha6,hut6,Own.nil _ _ _ _,Own.nil _ _ _ _,?_,?_,Own.nil _ _ _ _,?_⟩,HS1.out.trans hs16 (fun _ _ h=>h),?_⟩
 ·have:=HB.out
  simpa [kcells,newK,HRL.out] using this
 ·have:=HO.out.frm hs16 (fun _ _=>id)
  simpa [newK,HRL.out] using this
 ·have:=HL6.out
  simpa [newK,HRL.out] using this
 ·have hcl:∀ i b,KA.comp n w5.heap.size ⟨g,A,C,none,0,U,none,0,none,0,oA,oC,lA,lC,none,0⟩ i b →
    (i=0∧b=w5.heap.size)∨((i=1∨i=2)∧w2.heap.size≤b∧b < w3.heap.size)∨((i=4∨i=5∨i=6)∧w1.heap.size≤b∧b < w2.heap.size)∨(i=9∧w.heap.size≤b∧b < w1.heap.size)∨(i=10∧w4.heap.size≤b∧b < w5.heap.size):=by
   intro i b hb
   match i with
   | 0=>exact .inl ⟨rfl,hb⟩
   | 1 =>
    have hb':b=g:=hb
    have:=HA.out.blk.lt
    have:=HGL.out
    exact .inr (.inl ⟨.inl rfl,by omega,by omega⟩)
   | 2=>exact .inr (.inl ⟨.inr rfl,HAF.out b hb,Own.rlt HA.out.own hb⟩)
   | 3=>obtain ⟨_,hx,_⟩:=hb;cases hx
   | 4 =>
    have hb':b=U.T:=hb
    have:=HUT.out.t.lt
    have:=HU1.out
    exact .inr (.inr (.inl ⟨.inl rfl,by omega,by omega⟩))
   | 5 =>
    have hb':b=U.sb:=hb
    have:=HUT.out.sl
    have:=HU2.out
    exact .inr (.inr (.inl ⟨.inr (.inl rfl),by omega,by omega⟩))
   | 6 =>
    obtain ⟨v,hv,hb'⟩:=hb
    replace hb':b=U.mb v:=hb'
    have h1:=HU3.out v hv
    have h2:=HUT.out.ltm ⟨v,hv,rfl⟩
    exact .inr (.inr (.inl ⟨.inr (.inr rfl),by omega,by omega⟩))
   | 7=>obtain ⟨_,hx,_⟩:=hb;cases hx
   | 8=>obtain ⟨_,hx,_⟩:=hb;cases hx
   | 9=>exact .inr (.inr (.inr (.inl ⟨rfl,HOF.out b hb,Own.rlt HO.out hb⟩)))
   | 10 =>
    have h1:=HLF.out b hb
    have h3:w4.drew.heap.size=w4.heap.size:=rfl
    obtain ⟨ad,had,hbb⟩:=hb
    have h2:b < w5.heap.size:=by
     have:=HLB.out
     exact this b ⟨ad,had,hbb⟩
    exact .inr (.inr (.inr (.inr ⟨rfl,by omega,h2⟩)))
   | 11=>obtain ⟨_,hx,_⟩:=hb;cases hx
   | _+12=>exact hb.elim
  intro i j b hij hi hj
  rcases hcl i b hi with h | h | h | h | h <;> rcases hcl j b hj with h' | h' | h' | h' | h' <;> (try omega)
  ·obtain ⟨hi1,_⟩:=h
   obtain ⟨hj1,_⟩:=h'
   rcases hi1 with rfl | rfl <;> rcases hj1 with rfl | rfl
   ·exact absurd rfl hij
   ·exact absurd hi (hap.1 b hj).1
   ·exact absurd hj (hap.1 b hi).1
   ·exact absurd rfl hij
  ·obtain ⟨hi1,_⟩:=h
   obtain ⟨hj1,_⟩:=h'
   have a1:∀ b,b=U.T→b=U.sb→False:=fun b e1 e2=>hUTn (e1.symm.trans e2)
   have a2:∀ b,b=U.T→UB U n b→False:=fun b e1 ⟨v,hv,e2⟩=>(HUT.out.nt v hv).1 (e2.symm.trans e1)
   have a3:∀ b,b=U.sb→UB U n b→False:=fun b e1 ⟨v,hv,e2⟩=>(HUT.out.nt v hv).2 (e2.symm.trans e1)
   rcases hi1 with rfl | rfl | rfl <;> rcases hj1 with rfl | rfl | rfl
   ·exact absurd rfl hij
   ·exact a1 b hi hj
   ·exact a2 b hi hj
   ·exact a1 b hj hi
   ·exact absurd rfl hij
   ·exact a3 b hi hj
   ·exact a2 b hj hi
   ·exact a3 b hj hi
   ·exact absurd rfl hij
 ·rintro b ⟨i,hb⟩
  match i with
  | 0=>have hb':b=w5.heap.size:=hb;omega
  | 1=>have hb':b=g:=hb;have:=HGL.out;omega
  | 2=>have:=HAF.out b hb;omega
  | 3=>obtain ⟨_,hx,_⟩:=hb;cases hx
  | 4=>have hb':b=U.T:=hb;have:=HU1.out;omega
  | 5=>have hb':b=U.sb:=hb;have:=HU2.out;omega
  | 6=>obtain ⟨v,hv,hb'⟩:=hb;replace hb':b=U.mb v:=hb';have h1:=HU3.out v hv;omega
  | 7=>obtain ⟨_,hx,_⟩:=hb;cases hx
  | 8=>obtain ⟨_,hx,_⟩:=hb;cases hx
  | 9=>have:=HOF.out b hb;omega
  | 10=>have h1:=HLF.out b hb;have h3:w4.drew.heap.size=w4.heap.size:=rfl;omega
  | 11=>obtain ⟨_,hx,_⟩:=hb;cases hx
  | _+12=>exact hb.elim
end
end Go.Proofs.YtiomgckodmecbaaGreat
