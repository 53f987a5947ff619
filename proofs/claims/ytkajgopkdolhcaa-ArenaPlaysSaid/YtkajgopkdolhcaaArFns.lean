/- The contracts of the arena's functions. -/
import Derived.Test.YtkajgopkdolhcaaProg
import Derived.Test.YtkajgopkdolhcaaInts
import Derived.KernelRfl
namespace Go.Proofs.Ytkajgopkdolhcaa
open Go.RowKit Go.Tk

structure Nd where
  v : Int
  lo : Int
  hi : Int
  deriving DecidableEq
def Nd.val (n : Nd) : Value := .agg #[.int .i64 n.v, .int .u32 n.lo, .int .u32 n.hi]
structure Pl where
  n : Nd
  t : Bool
  c : Int
def Pl.cells (p : Pl) : List Value := [.int .i64 p.n.v, .int .u32 p.n.lo, .int .u32 p.n.hi, .bool p.t, .int .u8 p.c]
theorem Pl.cells_len (p : Pl) : p.cells.length = 5 := rfl
def rc (r : Int) : Value := .int .u32 r
/-- is the place taken? -/
def tk (ls : List Pl) (r : Int) : Bool := match ls[r.toNat]? with | some p => p.t | none => false
/-- the error of a node -/
def ckN (ls : List Pl) (n : Nd) : Int := if n.v < 0 ∨ 64 ≤ n.v then 2 else if tk ls n.lo = false ∨ tk ls n.hi = false then 3 else 0
def ownE (ls : List Pl) (r : Int) : Int := if r ≤ 1 ∨ tk ls r = false then 3 else 0

set_option maxHeartbeats 1000000 in
theorem taken_any (g : Nat) (v0 v2 v3 : Value) (ls : List Pl) (A : Option Addr) (C : Nat) (r : Int) (w : World) (hb : Blk w g 54 #[v0, .slice A ls.length C, v2, v3]) (ho : Own w 56 5 Pl.cells A ls.length C ls)
    (_hm : ls.length < 4294967296) (hr0 : 0 ≤ r) (hr1 : r < 4294967296) :
    Calls Try.prog 23 #[.pointer (some ⟨g, 0, none⟩), .int .u32 r] w fun e w' => e = .returned (.bool (tk ls r)) ∧ w = w' := by
  obtain ⟨n, rfl⟩ := Int.eq_ofNat_of_zero_le hr0
  have h1 := hb.cell 1
  simp at h1
  by_cases hlt : n < ls.length
  · obtain ⟨p, hp⟩ : ∃ p, ls[n]? = some p := ⟨_, List.getElem?_eq_getElem hlt⟩
    obtain ⟨sb, rfl, hsb, hc⟩ := ho.get Pl.cells_len hp
    have c3 : w.cell? ⟨sb, n * 5 + 3, none⟩ = some (.bool p.t) := hc 3 (by omega)
    have hi : (n : Int) < ls.length := by omega
    have HP := Lib.hid hp
    clear hp ho hb hc
    go_enter Try.func23, Try.ntmps23
    go_wp2
    go_ret
    exact ⟨by simp [tk, HP.out], rfl⟩
  · have hi : decide ((n : Int) < (ls.length : Int)) = false := by simp; omega
    have HN : Hid (ls[n]? = none) := Lib.hid (List.getElem?_eq_none (by omega))
    clear ho hb
    go_enter Try.func23, Try.ntmps23
    go_wp2
    go_ret
    exact ⟨by simp [tk, HN.out], rfl⟩

set_option maxHeartbeats 1000000 in
theorem check_any (g : Nat) (v0 v2 v3 : Value) (ls : List Pl) (A : Option Addr) (C : Nat) (n : Nd) (w : World) (hb : Blk w g 54 #[v0, .slice A ls.length C, v2, v3]) (ho : Own w 56 5 Pl.cells A ls.length C ls)
    (hm : ls.length < 4294967296) (hl0 : 0 ≤ n.lo) (hl1 : n.lo < 4294967296) (hh0 : 0 ≤ n.hi) (hh1 : n.hi < 4294967296) :
    Calls Try.prog 21 #[.pointer (some ⟨g, 0, none⟩), n.val] w fun e w' => e = .returned (.int .i64 (ckN ls n)) ∧ Same w w' := by
  have tkl : ∀ w', Same w w' → Calls Try.prog 23 #[.pointer (some ⟨g, 0, none⟩), .int .u32 n.lo] w' fun e w'' => e = .returned (.bool (tk ls n.lo)) ∧ w' = w'' :=
    fun w' h => taken_any g v0 v2 v3 ls A C n.lo w' (hb.frm h id) (ho.frm h (fun _ _ => id)) hm hl0 hl1
  have tkh : ∀ w', Same w w' → Calls Try.prog 23 #[.pointer (some ⟨g, 0, none⟩), .int .u32 n.hi] w' fun e w'' => e = .returned (.bool (tk ls n.hi)) ∧ w' = w'' :=
    fun w' h => taken_any g v0 v2 v3 ls A C n.hi w' (hb.frm h id) (ho.frm h (fun _ _ => id)) hm hh0 hh1
  have TL := Lib.hid tkl
  have TH := Lib.hid tkh
  clear tkl tkh hb ho
  unfold Nd.val
  have hsame : Same w (w.alloc (.cells #[.int .i64 n.v, .int .u32 n.lo, .int .u32 n.hi] 34)) := (Frm.refl _ _).alloc _
  by_cases h1 : n.v < 0
  · go_enter Try.func21, Try.ntmps21
    go_wp2_with (fail)
    go_ret
    exact ⟨ret_int (by simp [ckN, h1]), hsame⟩
  · by_cases h2 : n.v ≥ 64
    · go_enter Try.func21, Try.ntmps21
      go_wp2_with (fail)
      go_ret
      exact ⟨ret_int (by simp [ckN]; omega), hsame⟩
    · go_enter Try.func21, Try.ntmps21
      go_wp2_with (fail)
      refine (TL.out _ hsame).mono ?_
      rintro e w1 ⟨rfl, rfl⟩
      cases hl : tk ls n.lo with
      | false =>
        go_wp2_with (fail)
        go_ret
        exact ⟨ret_int (by simp only [ckN]; rw [if_neg (by omega), if_pos (.inl hl)]), hsame⟩
      | true =>
        go_wp2_with (fail)
        refine (TH.out _ hsame).mono ?_
        rintro e w1 ⟨rfl, rfl⟩
        cases hh : tk ls n.hi with
        | false =>
          go_wp2_with (fail)
          go_ret
          exact ⟨ret_int (by simp only [ckN]; rw [if_neg (by omega), if_pos (.inr hh)]), hsame⟩
        | true =>
          go_wp2_with (fail)
          go_ret
          exact ⟨ret_int (by simp only [ckN]; rw [if_neg (by omega), if_neg (by simp [hl, hh])]), hsame⟩

set_option maxHeartbeats 1000000 in
theorem own_any (g : Nat) (v0 v2 v3 : Value) (ls : List Pl) (A : Option Addr) (C : Nat) (r : Int) (w : World) (hb : Blk w g 54 #[v0, .slice A ls.length C, v2, v3]) (ho : Own w 56 5 Pl.cells A ls.length C ls)
    (hm : ls.length < 4294967296) (hr0 : 0 ≤ r) (hr1 : r < 4294967296) :
    Calls Try.prog 22 #[.pointer (some ⟨g, 0, none⟩), .int .u32 r] w fun e w' => e = .returned (.int .i64 (ownE ls r)) ∧ w = w' := by
  have T := Lib.hid (taken_any g v0 v2 v3 ls A C r w hb ho hm hr0 hr1)
  clear hb ho
  by_cases h1 : r ≤ 1
  · go_enter Try.func22, Try.ntmps22
    go_wp2_with (fail)
    go_ret
    exact ⟨ret_int (by simp [ownE, h1]), rfl⟩
  · go_enter Try.func22, Try.ntmps22
    go_wp2_with (fail)
    refine T.out.mono ?_
    rintro e w1 ⟨rfl, rfl⟩
    cases ht : tk ls r with
    | false =>
      go_wp2_with (fail)
      go_ret
      exact ⟨ret_int (by simp [ownE, ht]), rfl⟩
    | true =>
      go_wp2_with (fail)
      go_ret
      exact ⟨ret_int (by simp [ownE, ht, h1]), rfl⟩
end Go.Proofs.Ytkajgopkdolhcaa
