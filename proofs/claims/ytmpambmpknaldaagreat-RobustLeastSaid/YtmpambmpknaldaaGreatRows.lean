/-
  No cell of these rows narrows 'for every input' (looked for: loops, veiled, ifaces, maps, wideKeys, modest, calm, conditions, laid).
  DERIVED. THE GIVEN ROWS OF THIS SEAT. 6 by the template 'for every input the law returns true; each argument reads behind the call as it read before'; 0 by the template 'total and deterministic' (their statements: YtmpambmpknaldaaGreatTotals.lean).
  GIVEN WITH THE SEED: the statements are not yours to turn. If you find one false, say at which input.
  Laid BY PROGRAM, IN A SANDBOX (cutbox-rows.mjs): the forced cells as the released guide's own fill.sh prints them over the translation 1ce30d34ba85a909… (all of the seat's roots in one cut). By AI agents, Wed Nov 11 2026. No macro, syntax, notation, axiom, sorry.
-/
import Derived.Test.YtmpambmpknaldaaGreatChecked
import GoSem.Claim
import GoSem.ClaimJoined
import GoSem.ClaimMapViews
import Derived.JoinedTies
import Derived.KernelRfl
namespace Go.Proofs.YtmpambmpknaldaaGreat
/- THE CELL 'sum', in the pinned program and in every row, IS THE sha256 OF THE DUMP (.gsa) THAT YtmpambmpknaldaaGreatProg.lean LOADS. Nothing in Lean hashes anything: it is a label: what it is worth is what the hold of that sum in a sandbox is worth. -/
noncomputable def Tryz.pinned : Pinned := { name := "ytmpambmpknaldaagreat", sum := "1ce30d34ba85a90959470277aec64b657289c9b04e345b300e342290affdec4b", checked := Tryz.checked }
namespace Rows
def none {H : Type} : Left H := { results := [], args := [] }

/-- 'planispherelaw07.RobustMeans': WHATEVER THE INPUT: true; the input reads as it did. -/
def robustMeansSpec : ChangeSpec := { name := "robustMeans", fn := fun _ => fun
  | [d1, d2] => { results := [.lit (.bool true)], args := [d1, d2] }
  | _ => none }
def robustMeansRow : OpenClaim := { program := "ytmpambmpknaldaagreat", sum := "1ce30d34ba85a90959470277aec64b657289c9b04e345b300e342290affdec4b", func := "planisphere/planispherelaw07.RobustMeans", spec := "robustMeans", unfollowed := true, recurses := true, named := ["math/bits.overflowError"], apart := false }
def RobustMeansSaid : Prop := robustMeansRow.holds Tryz.pinned (OpenSpec.ofChange robustMeansSpec)

/-- ITS FALSE NEIGHBOUR: 'it returns false'. Refute it at one input. -/
def robustMeansWrong : ChangeSpec := { name := "robustMeans", fn := fun _ => fun
  | [d1, d2] => { results := [.lit (.bool false)], args := [d1, d2] }
  | _ => none }
def RobustMeansWrongFalsely : Prop := robustMeansRow.holds Tryz.pinned (OpenSpec.ofChange robustMeansWrong)

/-- 'planispherelaw07.RobustKept': WHATEVER THE INPUT: true; the input reads as it did. -/
def robustKeptSpec : ChangeSpec := { name := "robustKept", fn := fun _ => fun
  | [d1, d2] => { results := [.lit (.bool true)], args := [d1, d2] }
  | _ => none }
def robustKeptRow : OpenClaim := { program := "ytmpambmpknaldaagreat", sum := "1ce30d34ba85a90959470277aec64b657289c9b04e345b300e342290affdec4b", func := "planisphere/planispherelaw07.RobustKept", spec := "robustKept", unfollowed := true, recurses := true, named := ["math/bits.overflowError"], apart := false }
def RobustKeptSaid : Prop := robustKeptRow.holds Tryz.pinned (OpenSpec.ofChange robustKeptSpec)

/-- ITS FALSE NEIGHBOUR: 'it returns false'. Refute it at one input. -/
def robustKeptWrong : ChangeSpec := { name := "robustKept", fn := fun _ => fun
  | [d1, d2] => { results := [.lit (.bool false)], args := [d1, d2] }
  | _ => none }
def RobustKeptWrongFalsely : Prop := robustKeptRow.holds Tryz.pinned (OpenSpec.ofChange robustKeptWrong)

/-- 'planispherelaw07.RobustNames': WHATEVER THE INPUT: true; the input reads as it did. -/
def robustNamesSpec : ChangeSpec := { name := "robustNames", fn := fun _ => fun
  | [] => { results := [.lit (.bool true)], args := [] }
  | _ => none }
def robustNamesRow : OpenClaim := { program := "ytmpambmpknaldaagreat", sum := "1ce30d34ba85a90959470277aec64b657289c9b04e345b300e342290affdec4b", func := "planisphere/planispherelaw07.RobustNames", spec := "robustNames", unfollowed := true, recurses := true, named := ["math/bits.overflowError"], apart := false }
def RobustNamesSaid : Prop := robustNamesRow.holds Tryz.pinned (OpenSpec.ofChange robustNamesSpec)

/-- ITS FALSE NEIGHBOUR: 'it returns false'. Refute it at one input. -/
def robustNamesWrong : ChangeSpec := { name := "robustNames", fn := fun _ => fun
  | [] => { results := [.lit (.bool false)], args := [] }
  | _ => none }
def RobustNamesWrongFalsely : Prop := robustNamesRow.holds Tryz.pinned (OpenSpec.ofChange robustNamesWrong)

/-- 'planispherelaw07.RobustOrder': WHATEVER THE INPUT: true; the input reads as it did. -/
def robustOrderSpec : ChangeSpec := { name := "robustOrder", fn := fun _ => fun
  | [d1, d2, d3, d4] => { results := [.lit (.bool true)], args := [d1, d2, d3, d4] }
  | _ => none }
def robustOrderRow : OpenClaim := { program := "ytmpambmpknaldaagreat", sum := "1ce30d34ba85a90959470277aec64b657289c9b04e345b300e342290affdec4b", func := "planisphere/planispherelaw07.RobustOrder", spec := "robustOrder", unfollowed := true, recurses := true, named := ["math/bits.overflowError"], apart := false }
def RobustOrderSaid : Prop := robustOrderRow.holds Tryz.pinned (OpenSpec.ofChange robustOrderSpec)

/-- ITS FALSE NEIGHBOUR: 'it returns false'. Refute it at one input. -/
def robustOrderWrong : ChangeSpec := { name := "robustOrder", fn := fun _ => fun
  | [d1, d2, d3, d4] => { results := [.lit (.bool false)], args := [d1, d2, d3, d4] }
  | _ => none }
def RobustOrderWrongFalsely : Prop := robustOrderRow.holds Tryz.pinned (OpenSpec.ofChange robustOrderWrong)

/-- 'planispherelaw07.RobustMoved': WHATEVER THE INPUT: true; the input reads as it did. -/
def robustMovedSpec : ChangeSpec := { name := "robustMoved", fn := fun _ => fun
  | [d1, d2, d3, d4, d5] => { results := [.lit (.bool true)], args := [d1, d2, d3, d4, d5] }
  | _ => none }
def robustMovedRow : OpenClaim := { program := "ytmpambmpknaldaagreat", sum := "1ce30d34ba85a90959470277aec64b657289c9b04e345b300e342290affdec4b", func := "planisphere/planispherelaw07.RobustMoved", spec := "robustMoved", unfollowed := true, recurses := true, named := ["math/bits.overflowError"], apart := false }
def RobustMovedSaid : Prop := robustMovedRow.holds Tryz.pinned (OpenSpec.ofChange robustMovedSpec)

/-- ITS FALSE NEIGHBOUR: 'it returns false'. Refute it at one input. -/
def robustMovedWrong : ChangeSpec := { name := "robustMoved", fn := fun _ => fun
  | [d1, d2, d3, d4, d5] => { results := [.lit (.bool false)], args := [d1, d2, d3, d4, d5] }
  | _ => none }
def RobustMovedWrongFalsely : Prop := robustMovedRow.holds Tryz.pinned (OpenSpec.ofChange robustMovedWrong)

/-- 'planispherelaw07.RobustLeast': WHATEVER THE INPUT: true; the input reads as it did. -/
def robustLeastSpec : ChangeSpec := { name := "robustLeast", fn := fun _ => fun
  | [d1, d2, d3] => { results := [.lit (.bool true)], args := [d1, d2, d3] }
  | _ => none }
def robustLeastRow : OpenClaim := { program := "ytmpambmpknaldaagreat", sum := "1ce30d34ba85a90959470277aec64b657289c9b04e345b300e342290affdec4b", func := "planisphere/planispherelaw07.RobustLeast", spec := "robustLeast", unfollowed := true, recurses := true, named := ["math/bits.overflowError"], apart := false }
def RobustLeastSaid : Prop := robustLeastRow.holds Tryz.pinned (OpenSpec.ofChange robustLeastSpec)

/-- ITS FALSE NEIGHBOUR: 'it returns false'. Refute it at one input. -/
def robustLeastWrong : ChangeSpec := { name := "robustLeast", fn := fun _ => fun
  | [d1, d2, d3] => { results := [.lit (.bool false)], args := [d1, d2, d3] }
  | _ => none }
def RobustLeastWrongFalsely : Prop := robustLeastRow.holds Tryz.pinned (OpenSpec.ofChange robustLeastWrong)

/- THE SECOND FORM. 'bulk': how many values and letters a reading holds, each counted each time it is reached (what is shared counts as often as it is met; a slice's spare places count too). A statement '..UptoSaid' is the law's where the arguments, and the package variables that the reading takes, are together of bulk at most 1048576: NARROWER than '..Said'. Prove '..Said' where nothing that the law and all that it calls make is longer than what came in: it says more and counts as full. Else prove '..UptoSaid'. A law counts once. -/
mutual
def uptoBulk {H : Type} : DataW H → Nat
  | .lit (.string bytes) => bytes.length + 1
  | .lit _ => 1
  | .nil => 1
  | .ptr d => uptoBulk d + 1
  | .slice elems spare => uptoBulkAll elems + uptoBulkAll spare + 1
  | .agg parts => uptoBulkAll parts + 1
  | .iface _ d => uptoBulk d + 1
  | .map entries => uptoBulkEntries entries + 1
  | .held _ => 1
def uptoBulkAll {H : Type} : List (DataW H) → Nat
  | [] => 0
  | d :: r => uptoBulk d + uptoBulkAll r
def uptoBulkEntries {H : Type} : List (Lit × DataW H) → Nat
  | [] => 0
  | x :: r => uptoBulkEntry x + uptoBulkEntries r
def uptoBulkEntry {H : Type} : Lit × DataW H → Nat
  | (.string bytes, d) => bytes.length + uptoBulk d + 1
  | (_, d) => uptoBulk d + 1
 end
def uptoSmall : (H : Type) → List (DataW H) → Bool := fun _ ds => decide (uptoBulkAll ds ≤ 1048576)
def OpenSpec.upto (s : _root_.Go.ChangeSpec) : _root_.Go.OpenSpec := { _root_.Go.OpenSpec.ofChange s with cond := some uptoSmall }

/-- 'planispherelaw07.RobustMeans', WHERE WHAT IT READS IS OF BULK AT MOST 1048576: true; the input reads as it did. -/
def robustMeansUptoRow : OpenClaim := { program := "ytmpambmpknaldaagreat", sum := "1ce30d34ba85a90959470277aec64b657289c9b04e345b300e342290affdec4b", func := "planisphere/planispherelaw07.RobustMeans", spec := "robustMeans", unfollowed := true, recurses := true, named := ["math/bits.overflowError"], apart := false, narrowed := true }
def RobustMeansUptoSaid : Prop := robustMeansUptoRow.holds Tryz.pinned (OpenSpec.upto robustMeansSpec)

/-- 'planispherelaw07.RobustKept', WHERE WHAT IT READS IS OF BULK AT MOST 1048576: true; the input reads as it did. -/
def robustKeptUptoRow : OpenClaim := { program := "ytmpambmpknaldaagreat", sum := "1ce30d34ba85a90959470277aec64b657289c9b04e345b300e342290affdec4b", func := "planisphere/planispherelaw07.RobustKept", spec := "robustKept", unfollowed := true, recurses := true, named := ["math/bits.overflowError"], apart := false, narrowed := true }
def RobustKeptUptoSaid : Prop := robustKeptUptoRow.holds Tryz.pinned (OpenSpec.upto robustKeptSpec)

/-- 'planispherelaw07.RobustNames', WHERE WHAT IT READS IS OF BULK AT MOST 1048576: true; the input reads as it did. -/
def robustNamesUptoRow : OpenClaim := { program := "ytmpambmpknaldaagreat", sum := "1ce30d34ba85a90959470277aec64b657289c9b04e345b300e342290affdec4b", func := "planisphere/planispherelaw07.RobustNames", spec := "robustNames", unfollowed := true, recurses := true, named := ["math/bits.overflowError"], apart := false, narrowed := true }
def RobustNamesUptoSaid : Prop := robustNamesUptoRow.holds Tryz.pinned (OpenSpec.upto robustNamesSpec)

/-- 'planispherelaw07.RobustOrder', WHERE WHAT IT READS IS OF BULK AT MOST 1048576: true; the input reads as it did. -/
def robustOrderUptoRow : OpenClaim := { program := "ytmpambmpknaldaagreat", sum := "1ce30d34ba85a90959470277aec64b657289c9b04e345b300e342290affdec4b", func := "planisphere/planispherelaw07.RobustOrder", spec := "robustOrder", unfollowed := true, recurses := true, named := ["math/bits.overflowError"], apart := false, narrowed := true }
def RobustOrderUptoSaid : Prop := robustOrderUptoRow.holds Tryz.pinned (OpenSpec.upto robustOrderSpec)

/-- 'planispherelaw07.RobustMoved', WHERE WHAT IT READS IS OF BULK AT MOST 1048576: true; the input reads as it did. -/
def robustMovedUptoRow : OpenClaim := { program := "ytmpambmpknaldaagreat", sum := "1ce30d34ba85a90959470277aec64b657289c9b04e345b300e342290affdec4b", func := "planisphere/planispherelaw07.RobustMoved", spec := "robustMoved", unfollowed := true, recurses := true, named := ["math/bits.overflowError"], apart := false, narrowed := true }
def RobustMovedUptoSaid : Prop := robustMovedUptoRow.holds Tryz.pinned (OpenSpec.upto robustMovedSpec)

/-- 'planispherelaw07.RobustLeast', WHERE WHAT IT READS IS OF BULK AT MOST 1048576: true; the input reads as it did. -/
def robustLeastUptoRow : OpenClaim := { program := "ytmpambmpknaldaagreat", sum := "1ce30d34ba85a90959470277aec64b657289c9b04e345b300e342290affdec4b", func := "planisphere/planispherelaw07.RobustLeast", spec := "robustLeast", unfollowed := true, recurses := true, named := ["math/bits.overflowError"], apart := false, narrowed := true }
def RobustLeastUptoSaid : Prop := robustLeastUptoRow.holds Tryz.pinned (OpenSpec.upto robustLeastSpec)

end Rows
end Go.Proofs.YtmpambmpknaldaaGreat
