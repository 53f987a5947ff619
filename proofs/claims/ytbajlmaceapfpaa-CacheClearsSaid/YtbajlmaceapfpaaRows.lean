/-
  No cell of these rows narrows 'for every input' (looked for: loops, veiled, ifaces, maps, wideKeys, modest, calm, conditions, laid).
  DERIVED. THE GIVEN ROWS OF THIS SEAT. 4 by the template 'for every input the law returns true; each argument reads behind the call as it read before'; 0 by the template 'total and deterministic' (their statements: YtbajlmaceapfpaaTotals.lean).
  GIVEN WITH THE SEED: the statements are not yours to turn. If you find one false, say at which input.
  Laid BY PROGRAM, IN A SANDBOX (cutbox-rows.mjs): the forced cells as the released guide's own fill.sh prints them over the translation 9f64b472645d3f7e… (all of the seat's roots in one cut). By AI agents, Wed Nov 11 2026. No macro, syntax, notation, axiom, sorry.
-/
import Derived.Test.YtbajlmaceapfpaaChecked
import GoSem.Claim
import GoSem.ClaimJoined
import GoSem.ClaimMapViews
import Derived.JoinedTies
import Derived.KernelRfl
namespace Go.Proofs.Ytbajlmaceapfpaa
/- THE CELL 'sum', in the pinned program and in every row, IS THE sha256 OF THE DUMP (.gsa) THAT YtbajlmaceapfpaaProg.lean LOADS. Nothing in Lean hashes anything: it is a label: what it is worth is what the hold of that sum in a sandbox is worth. -/
noncomputable def Try.pinned : Pinned := { name := "ytbajlmaceapfpaa", sum := "9f64b472645d3f7ea8bf9e9cf0e37681afbb24cdda5ae284ddc2de4d7befb26e", checked := Try.checked }
namespace Rows
def none {H : Type} : Left H := { results := [], args := [] }

/-- 'thicketlaw08.CachePlays': WHATEVER THE INPUT: true; the input reads as it did. -/
def cachePlaysSpec : ChangeSpec := { name := "cachePlays", fn := fun _ => fun
  | [d1, d2] => { results := [.lit (.bool true)], args := [d1, d2] }
  | _ => none }
def cachePlaysRow : OpenClaim := { program := "ytbajlmaceapfpaa", sum := "9f64b472645d3f7ea8bf9e9cf0e37681afbb24cdda5ae284ddc2de4d7befb26e", func := "thicket/thicketlaw08.CachePlays", spec := "cachePlays", apart := false }
def CachePlaysSaid : Prop := cachePlaysRow.holds Try.pinned (OpenSpec.ofChange cachePlaysSpec)

/-- ITS FALSE NEIGHBOUR: 'it returns false'. Refute it at one input. -/
def cachePlaysWrong : ChangeSpec := { name := "cachePlays", fn := fun _ => fun
  | [d1, d2] => { results := [.lit (.bool false)], args := [d1, d2] }
  | _ => none }
def CachePlaysWrongFalsely : Prop := cachePlaysRow.holds Try.pinned (OpenSpec.ofChange cachePlaysWrong)

/-- 'thicketlaw08.CacheTwo': WHATEVER THE INPUT: true; the input reads as it did. -/
def cacheTwoSpec : ChangeSpec := { name := "cacheTwo", fn := fun _ => fun
  | [d1, d2, d3] => { results := [.lit (.bool true)], args := [d1, d2, d3] }
  | _ => none }
def cacheTwoRow : OpenClaim := { program := "ytbajlmaceapfpaa", sum := "9f64b472645d3f7ea8bf9e9cf0e37681afbb24cdda5ae284ddc2de4d7befb26e", func := "thicket/thicketlaw08.CacheTwo", spec := "cacheTwo", apart := false }
def CacheTwoSaid : Prop := cacheTwoRow.holds Try.pinned (OpenSpec.ofChange cacheTwoSpec)

/-- ITS FALSE NEIGHBOUR: 'it returns false'. Refute it at one input. -/
def cacheTwoWrong : ChangeSpec := { name := "cacheTwo", fn := fun _ => fun
  | [d1, d2, d3] => { results := [.lit (.bool false)], args := [d1, d2, d3] }
  | _ => none }
def CacheTwoWrongFalsely : Prop := cacheTwoRow.holds Try.pinned (OpenSpec.ofChange cacheTwoWrong)

/-- 'thicketlaw08.CacheClears': WHATEVER THE INPUT: true; the input reads as it did. -/
def cacheClearsSpec : ChangeSpec := { name := "cacheClears", fn := fun _ => fun
  | [d1, d2, d3] => { results := [.lit (.bool true)], args := [d1, d2, d3] }
  | _ => none }
def cacheClearsRow : OpenClaim := { program := "ytbajlmaceapfpaa", sum := "9f64b472645d3f7ea8bf9e9cf0e37681afbb24cdda5ae284ddc2de4d7befb26e", func := "thicket/thicketlaw08.CacheClears", spec := "cacheClears", apart := false }
def CacheClearsSaid : Prop := cacheClearsRow.holds Try.pinned (OpenSpec.ofChange cacheClearsSpec)

/-- ITS FALSE NEIGHBOUR: 'it returns false'. Refute it at one input. -/
def cacheClearsWrong : ChangeSpec := { name := "cacheClears", fn := fun _ => fun
  | [d1, d2, d3] => { results := [.lit (.bool false)], args := [d1, d2, d3] }
  | _ => none }
def CacheClearsWrongFalsely : Prop := cacheClearsRow.holds Try.pinned (OpenSpec.ofChange cacheClearsWrong)

/-- 'thicketlaw08.CacheNil': WHATEVER THE INPUT: true; the input reads as it did. -/
def cacheNilSpec : ChangeSpec := { name := "cacheNil", fn := fun _ => fun
  | [d] => { results := [.lit (.bool true)], args := [d] }
  | _ => none }
def cacheNilRow : OpenClaim := { program := "ytbajlmaceapfpaa", sum := "9f64b472645d3f7ea8bf9e9cf0e37681afbb24cdda5ae284ddc2de4d7befb26e", func := "thicket/thicketlaw08.CacheNil", spec := "cacheNil", apart := false }
def CacheNilSaid : Prop := cacheNilRow.holds Try.pinned (OpenSpec.ofChange cacheNilSpec)

/-- ITS FALSE NEIGHBOUR: 'it returns false'. Refute it at one input. -/
def cacheNilWrong : ChangeSpec := { name := "cacheNil", fn := fun _ => fun
  | [d] => { results := [.lit (.bool false)], args := [d] }
  | _ => none }
def CacheNilWrongFalsely : Prop := cacheNilRow.holds Try.pinned (OpenSpec.ofChange cacheNilWrong)

/- THE SECOND FORM. 'bulk': how many values and letters a reading holds, each counted each time it is reached (what is shared counts as often as it is met; a slice's spare places count too). A statement '..UptoSaid' is the law's where the arguments, and the package variables that the reading takes, are together of bulk at most 1048576: NARROWER than '..Said'. Prove '..Said' where nothing that the law and all that it calls make is longer than what came in: it says more and counts as full. Else prove '..UptoSaid'. A law counts once. -/
mutual
def uptoBulk {H : Type} : DataW H → Nat
  | .lit (.string bytes) => bytes.length + 1
  | .lit _ => 1
  | .nil => 1
  | .ptr d => uptoBulk d + 1
  | .slice elems spare => uptoBulkAll elems + uptoBulkAll spare + 1
  | .agg parts => uptoBulkAll parts + 1
  | .iface _ d => uptoBulk d + 1
  | .map entries => uptoBulkEntries entries + 1
  | .held _ => 1
def uptoBulkAll {H : Type} : List (DataW H) → Nat
  | [] => 0
  | d :: r => uptoBulk d + uptoBulkAll r
def uptoBulkEntries {H : Type} : List (Lit × DataW H) → Nat
  | [] => 0
  | x :: r => uptoBulkEntry x + uptoBulkEntries r
def uptoBulkEntry {H : Type} : Lit × DataW H → Nat
  | (.string bytes, d) => bytes.length + uptoBulk d + 1
  | (_, d) => uptoBulk d + 1
 end
def uptoSmall : (H : Type) → List (DataW H) → Bool := fun _ ds => decide (uptoBulkAll ds ≤ 1048576)
def OpenSpec.upto (s : _root_.Go.ChangeSpec) : _root_.Go.OpenSpec := { _root_.Go.OpenSpec.ofChange s with cond := some uptoSmall }

/-- 'thicketlaw08.CachePlays', WHERE WHAT IT READS IS OF BULK AT MOST 1048576: true; the input reads as it did. -/
def cachePlaysUptoRow : OpenClaim := { program := "ytbajlmaceapfpaa", sum := "9f64b472645d3f7ea8bf9e9cf0e37681afbb24cdda5ae284ddc2de4d7befb26e", func := "thicket/thicketlaw08.CachePlays", spec := "cachePlays", apart := false, narrowed := true }
def CachePlaysUptoSaid : Prop := cachePlaysUptoRow.holds Try.pinned (OpenSpec.upto cachePlaysSpec)

/-- 'thicketlaw08.CacheTwo', WHERE WHAT IT READS IS OF BULK AT MOST 1048576: true; the input reads as it did. -/
def cacheTwoUptoRow : OpenClaim := { program := "ytbajlmaceapfpaa", sum := "9f64b472645d3f7ea8bf9e9cf0e37681afbb24cdda5ae284ddc2de4d7befb26e", func := "thicket/thicketlaw08.CacheTwo", spec := "cacheTwo", apart := false, narrowed := true }
def CacheTwoUptoSaid : Prop := cacheTwoUptoRow.holds Try.pinned (OpenSpec.upto cacheTwoSpec)

/-- 'thicketlaw08.CacheClears', WHERE WHAT IT READS IS OF BULK AT MOST 1048576: true; the input reads as it did. -/
def cacheClearsUptoRow : OpenClaim := { program := "ytbajlmaceapfpaa", sum := "9f64b472645d3f7ea8bf9e9cf0e37681afbb24cdda5ae284ddc2de4d7befb26e", func := "thicket/thicketlaw08.CacheClears", spec := "cacheClears", apart := false, narrowed := true }
def CacheClearsUptoSaid : Prop := cacheClearsUptoRow.holds Try.pinned (OpenSpec.upto cacheClearsSpec)

/-- 'thicketlaw08.CacheNil', WHERE WHAT IT READS IS OF BULK AT MOST 1048576: true; the input reads as it did. -/
def cacheNilUptoRow : OpenClaim := { program := "ytbajlmaceapfpaa", sum := "9f64b472645d3f7ea8bf9e9cf0e37681afbb24cdda5ae284ddc2de4d7befb26e", func := "thicket/thicketlaw08.CacheNil", spec := "cacheNil", apart := false, narrowed := true }
def CacheNilUptoSaid : Prop := cacheNilUptoRow.holds Try.pinned (OpenSpec.upto cacheNilSpec)

end Rows
end Go.Proofs.Ytbajlmaceapfpaa
