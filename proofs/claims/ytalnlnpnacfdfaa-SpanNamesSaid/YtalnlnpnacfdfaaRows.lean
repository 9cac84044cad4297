/-
  No cell of these rows narrows 'for every input' (looked for: loops, veiled, ifaces, maps, wideKeys, modest, calm, conditions, laid).
  DERIVED. THE GIVEN ROWS OF THIS SEAT. 5 by the template 'for every input the law returns true; each argument reads behind the call as it read before'; 0 by the template 'total and deterministic' (their statements: YtalnlnpnacfdfaaTotals.lean).
  GIVEN WITH THE SEED: the statements are not yours to turn. If you find one false, say at which input.
  Laid BY PROGRAM, IN A SANDBOX (cutbox-rows.mjs): the forced cells as the released guide's own fill.sh prints them over the translation 7c6145d5ceb97eff… (all of the seat's roots in one cut). By AI agents, Wed Nov 11 2026. No macro, syntax, notation, axiom, sorry.
-/
import Derived.Test.YtalnlnpnacfdfaaChecked
import GoSem.Claim
import GoSem.ClaimJoined
import GoSem.ClaimMapViews
import Derived.JoinedTies
import Derived.KernelRfl
namespace Go.Proofs.Ytalnlnpnacfdfaa
/- THE CELL 'sum', in the pinned program and in every row, IS THE sha256 OF THE DUMP (.gsa) THAT YtalnlnpnacfdfaaProg.lean LOADS. Nothing in Lean hashes anything: it is a label: what it is worth is what the hold of that sum in a sandbox is worth. -/
noncomputable def Try.pinned : Pinned := { name := "ytalnlnpnacfdfaa", sum := "7c6145d5ceb97effcf70629a5281e65e74808b6aabf4360409949ca1ab78999f", checked := Try.checked }
namespace Rows
def none {H : Type} : Left H := { results := [], args := [] }

/-- 'planispherelaw03.SpanAsks': WHATEVER THE INPUT: true; the input reads as it did. -/
def spanAsksSpec : ChangeSpec := { name := "spanAsks", fn := fun _ => fun
  | [d1, d2, d3] => { results := [.lit (.bool true)], args := [d1, d2, d3] }
  | _ => none }
def spanAsksRow : OpenClaim := { program := "ytalnlnpnacfdfaa", sum := "7c6145d5ceb97effcf70629a5281e65e74808b6aabf4360409949ca1ab78999f", func := "planisphere/planispherelaw03.SpanAsks", spec := "spanAsks", inPlace := ["math/bits.Sub64"], recurses := true, named := ["math/bits.divideError", "math/bits.overflowError"], apart := false }
def SpanAsksSaid : Prop := spanAsksRow.holds Try.pinned (OpenSpec.ofChange spanAsksSpec)

/-- ITS FALSE NEIGHBOUR: 'it returns false'. Refute it at one input. -/
def spanAsksWrong : ChangeSpec := { name := "spanAsks", fn := fun _ => fun
  | [d1, d2, d3] => { results := [.lit (.bool false)], args := [d1, d2, d3] }
  | _ => none }
def SpanAsksWrongFalsely : Prop := spanAsksRow.holds Try.pinned (OpenSpec.ofChange spanAsksWrong)

/-- 'planispherelaw03.SpanReckons': WHATEVER THE INPUT: true; the input reads as it did. -/
def spanReckonsSpec : ChangeSpec := { name := "spanReckons", fn := fun _ => fun
  | [d1, d2] => { results := [.lit (.bool true)], args := [d1, d2] }
  | _ => none }
def spanReckonsRow : OpenClaim := { program := "ytalnlnpnacfdfaa", sum := "7c6145d5ceb97effcf70629a5281e65e74808b6aabf4360409949ca1ab78999f", func := "planisphere/planispherelaw03.SpanReckons", spec := "spanReckons", inPlace := ["math/bits.Sub64"], recurses := true, named := ["math/bits.divideError", "math/bits.overflowError"], apart := false }
def SpanReckonsSaid : Prop := spanReckonsRow.holds Try.pinned (OpenSpec.ofChange spanReckonsSpec)

/-- ITS FALSE NEIGHBOUR: 'it returns false'. Refute it at one input. -/
def spanReckonsWrong : ChangeSpec := { name := "spanReckons", fn := fun _ => fun
  | [d1, d2] => { results := [.lit (.bool false)], args := [d1, d2] }
  | _ => none }
def SpanReckonsWrongFalsely : Prop := spanReckonsRow.holds Try.pinned (OpenSpec.ofChange spanReckonsWrong)

/-- 'planispherelaw03.SpanMakes': WHATEVER THE INPUT: true; the input reads as it did. -/
def spanMakesSpec : ChangeSpec := { name := "spanMakes", fn := fun _ => fun
  | [d1, d2] => { results := [.lit (.bool true)], args := [d1, d2] }
  | _ => none }
def spanMakesRow : OpenClaim := { program := "ytalnlnpnacfdfaa", sum := "7c6145d5ceb97effcf70629a5281e65e74808b6aabf4360409949ca1ab78999f", func := "planisphere/planispherelaw03.SpanMakes", spec := "spanMakes", unfollowed := true, recurses := true, named := ["math/bits.overflowError"], apart := false }
def SpanMakesSaid : Prop := spanMakesRow.holds Try.pinned (OpenSpec.ofChange spanMakesSpec)

/-- ITS FALSE NEIGHBOUR: 'it returns false'. Refute it at one input. -/
def spanMakesWrong : ChangeSpec := { name := "spanMakes", fn := fun _ => fun
  | [d1, d2] => { results := [.lit (.bool false)], args := [d1, d2] }
  | _ => none }
def SpanMakesWrongFalsely : Prop := spanMakesRow.holds Try.pinned (OpenSpec.ofChange spanMakesWrong)

/-- 'planispherelaw03.SpanParts': WHATEVER THE INPUT: true; the input reads as it did. -/
def spanPartsSpec : ChangeSpec := { name := "spanParts", fn := fun _ => fun
  | [d1, d2, d3, d4, d5, d6] => { results := [.lit (.bool true)], args := [d1, d2, d3, d4, d5, d6] }
  | _ => none }
def spanPartsRow : OpenClaim := { program := "ytalnlnpnacfdfaa", sum := "7c6145d5ceb97effcf70629a5281e65e74808b6aabf4360409949ca1ab78999f", func := "planisphere/planispherelaw03.SpanParts", spec := "spanParts", inPlace := ["math/bits.Sub64"], unfollowed := true, recurses := true, named := ["math/bits.overflowError", "math/bits.divideError"], apart := false }
def SpanPartsSaid : Prop := spanPartsRow.holds Try.pinned (OpenSpec.ofChange spanPartsSpec)

/-- ITS FALSE NEIGHBOUR: 'it returns false'. Refute it at one input. -/
def spanPartsWrong : ChangeSpec := { name := "spanParts", fn := fun _ => fun
  | [d1, d2, d3, d4, d5, d6] => { results := [.lit (.bool false)], args := [d1, d2, d3, d4, d5, d6] }
  | _ => none }
def SpanPartsWrongFalsely : Prop := spanPartsRow.holds Try.pinned (OpenSpec.ofChange spanPartsWrong)

/-- 'planispherelaw03.SpanNames': WHATEVER THE INPUT: true; the input reads as it did. -/
def spanNamesSpec : ChangeSpec := { name := "spanNames", fn := fun _ => fun
  | [] => { results := [.lit (.bool true)], args := [] }
  | _ => none }
def spanNamesRow : OpenClaim := { program := "ytalnlnpnacfdfaa", sum := "7c6145d5ceb97effcf70629a5281e65e74808b6aabf4360409949ca1ab78999f", func := "planisphere/planispherelaw03.SpanNames", spec := "spanNames", inPlace := ["math/bits.Sub64"], unfollowed := true, recurses := true, named := ["math/bits.divideError", "math/bits.overflowError"], apart := false }
def SpanNamesSaid : Prop := spanNamesRow.holds Try.pinned (OpenSpec.ofChange spanNamesSpec)

/-- ITS FALSE NEIGHBOUR: 'it returns false'. Refute it at one input. -/
def spanNamesWrong : ChangeSpec := { name := "spanNames", fn := fun _ => fun
  | [] => { results := [.lit (.bool false)], args := [] }
  | _ => none }
def SpanNamesWrongFalsely : Prop := spanNamesRow.holds Try.pinned (OpenSpec.ofChange spanNamesWrong)

/- THE SECOND FORM. 'bulk': how many values and letters a reading holds, each counted each time it is reached (what is shared counts as often as it is met; a slice's spare places count too). A statement '..UptoSaid' is the law's where the arguments, and the package variables that the reading takes, are together of bulk at most 1048576: NARROWER than '..Said'. Prove '..Said' where nothing that the law and all that it calls make is longer than what came in: it says more and counts as full. Else prove '..UptoSaid'. A law counts once. -/
mutual
def uptoBulk {H : Type} : DataW H → Nat
  | .lit (.string bytes) => bytes.length + 1
  | .lit _ => 1
  | .nil => 1
  | .ptr d => uptoBulk d + 1
  | .slice elems spare => uptoBulkAll elems + uptoBulkAll spare + 1
  | .agg parts => uptoBulkAll parts + 1
  | .iface _ d => uptoBulk d + 1
  | .map entries => uptoBulkEntries entries + 1
  | .held _ => 1
def uptoBulkAll {H : Type} : List (DataW H) → Nat
  | [] => 0
  | d :: r => uptoBulk d + uptoBulkAll r
def uptoBulkEntries {H : Type} : List (Lit × DataW H) → Nat
  | [] => 0
  | x :: r => uptoBulkEntry x + uptoBulkEntries r
def uptoBulkEntry {H : Type} : Lit × DataW H → Nat
  | (.string bytes, d) => bytes.length + uptoBulk d + 1
  | (_, d) => uptoBulk d + 1
 end
def uptoSmall : (H : Type) → List (DataW H) → Bool := fun _ ds => decide (uptoBulkAll ds ≤ 1048576)
def OpenSpec.upto (s : _root_.Go.ChangeSpec) : _root_.Go.OpenSpec := { _root_.Go.OpenSpec.ofChange s with cond := some uptoSmall }

/-- 'planispherelaw03.SpanAsks', WHERE WHAT IT READS IS OF BULK AT MOST 1048576: true; the input reads as it did. -/
def spanAsksUptoRow : OpenClaim := { program := "ytalnlnpnacfdfaa", sum := "7c6145d5ceb97effcf70629a5281e65e74808b6aabf4360409949ca1ab78999f", func := "planisphere/planispherelaw03.SpanAsks", spec := "spanAsks", inPlace := ["math/bits.Sub64"], recurses := true, named := ["math/bits.divideError", "math/bits.overflowError"], apart := false, narrowed := true }
def SpanAsksUptoSaid : Prop := spanAsksUptoRow.holds Try.pinned (OpenSpec.upto spanAsksSpec)

/-- 'planispherelaw03.SpanReckons', WHERE WHAT IT READS IS OF BULK AT MOST 1048576: true; the input reads as it did. -/
def spanReckonsUptoRow : OpenClaim := { program := "ytalnlnpnacfdfaa", sum := "7c6145d5ceb97effcf70629a5281e65e74808b6aabf4360409949ca1ab78999f", func := "planisphere/planispherelaw03.SpanReckons", spec := "spanReckons", inPlace := ["math/bits.Sub64"], recurses := true, named := ["math/bits.divideError", "math/bits.overflowError"], apart := false, narrowed := true }
def SpanReckonsUptoSaid : Prop := spanReckonsUptoRow.holds Try.pinned (OpenSpec.upto spanReckonsSpec)

/-- 'planispherelaw03.SpanMakes', WHERE WHAT IT READS IS OF BULK AT MOST 1048576: true; the input reads as it did. -/
def spanMakesUptoRow : OpenClaim := { program := "ytalnlnpnacfdfaa", sum := "7c6145d5ceb97effcf70629a5281e65e74808b6aabf4360409949ca1ab78999f", func := "planisphere/planispherelaw03.SpanMakes", spec := "spanMakes", unfollowed := true, recurses := true, named := ["math/bits.overflowError"], apart := false, narrowed := true }
def SpanMakesUptoSaid : Prop := spanMakesUptoRow.holds Try.pinned (OpenSpec.upto spanMakesSpec)

/-- 'planispherelaw03.SpanParts', WHERE WHAT IT READS IS OF BULK AT MOST 1048576: true; the input reads as it did. -/
def spanPartsUptoRow : OpenClaim := { program := "ytalnlnpnacfdfaa", sum := "7c6145d5ceb97effcf70629a5281e65e74808b6aabf4360409949ca1ab78999f", func := "planisphere/planispherelaw03.SpanParts", spec := "spanParts", inPlace := ["math/bits.Sub64"], unfollowed := true, recurses := true, named := ["math/bits.overflowError", "math/bits.divideError"], apart := false, narrowed := true }
def SpanPartsUptoSaid : Prop := spanPartsUptoRow.holds Try.pinned (OpenSpec.upto spanPartsSpec)

/-- 'planispherelaw03.SpanNames', WHERE WHAT IT READS IS OF BULK AT MOST 1048576: true; the input reads as it did. -/
def spanNamesUptoRow : OpenClaim := { program := "ytalnlnpnacfdfaa", sum := "7c6145d5ceb97effcf70629a5281e65e74808b6aabf4360409949ca1ab78999f", func := "planisphere/planispherelaw03.SpanNames", spec := "spanNames", inPlace := ["math/bits.Sub64"], unfollowed := true, recurses := true, named := ["math/bits.divideError", "math/bits.overflowError"], apart := false, narrowed := true }
def SpanNamesUptoSaid : Prop := spanNamesUptoRow.holds Try.pinned (OpenSpec.upto spanNamesSpec)

end Rows
end Go.Proofs.Ytalnlnpnacfdfaa
