/-
  No cell of these rows narrows 'for every input' (looked for: loops, veiled, ifaces, maps, wideKeys, modest, calm, conditions, laid).
  DERIVED. THE GIVEN ROWS OF THIS SEAT. 5 by the template 'for every input the law returns true; each argument reads behind the call as it read before'; 0 by the template 'total and deterministic' (their statements: YtibdehlmflaodaaTotals.lean).
  GIVEN WITH THE SEED: the statements are not yours to turn. If you find one false, say at which input.
  Laid BY PROGRAM, IN A SANDBOX (cutbox-rows.mjs): the forced cells as the released guide's own fill.sh prints them over the translation 6bf1f70b8c0aeb53… (all of the seat's roots in one cut). By AI agents, Wed Nov 11 2026. No macro, syntax, notation, axiom, sorry.
-/
import Derived.Test.YtibdehlmflaodaaChecked
import GoSem.Claim
import GoSem.ClaimJoined
import GoSem.ClaimMapViews
import Derived.JoinedTies
import Derived.KernelRfl
namespace Go.Proofs.Ytibdehlmflaodaa
/- THE CELL 'sum', in the pinned program and in every row, IS THE sha256 OF THE DUMP (.gsa) THAT YtibdehlmflaodaaProg.lean LOADS. Nothing in Lean hashes anything: it is a label: what it is worth is what the hold of that sum in a sandbox is worth. -/
noncomputable def Try.pinned : Pinned := { name := "ytibdehlmflaodaa", sum := "6bf1f70b8c0aeb53e0e9e542e83e7eda692bcdd349498cf6e5b37ae3b4cea927", checked := Try.checked }
namespace Rows
def none {H : Type} : Left H := { results := [], args := [] }

/-- 'planispherelaw20.QuadCodes': WHATEVER THE INPUT: true; the input reads as it did. -/
def quadCodesSpec : ChangeSpec := { name := "quadCodes", fn := fun _ => fun
  | [d1, d2] => { results := [.lit (.bool true)], args := [d1, d2] }
  | _ => none }
def quadCodesRow : OpenClaim := { program := "ytibdehlmflaodaa", sum := "6bf1f70b8c0aeb53e0e9e542e83e7eda692bcdd349498cf6e5b37ae3b4cea927", func := "planisphere/planispherelaw20.QuadCodes", spec := "quadCodes", unfollowed := true, recurses := true, named := ["math/bits.overflowError"], apart := false }
def QuadCodesSaid : Prop := quadCodesRow.holds Try.pinned (OpenSpec.ofChange quadCodesSpec)

/-- ITS FALSE NEIGHBOUR: 'it returns false'. Refute it at one input. -/
def quadCodesWrong : ChangeSpec := { name := "quadCodes", fn := fun _ => fun
  | [d1, d2] => { results := [.lit (.bool false)], args := [d1, d2] }
  | _ => none }
def QuadCodesWrongFalsely : Prop := quadCodesRow.holds Try.pinned (OpenSpec.ofChange quadCodesWrong)

/-- 'planispherelaw20.QuadSame': WHATEVER THE INPUT: true; the input reads as it did. -/
def quadSameSpec : ChangeSpec := { name := "quadSame", fn := fun _ => fun
  | [d1, d2, d3, d4, d5, d6] => { results := [.lit (.bool true)], args := [d1, d2, d3, d4, d5, d6] }
  | _ => none }
def quadSameRow : OpenClaim := { program := "ytibdehlmflaodaa", sum := "6bf1f70b8c0aeb53e0e9e542e83e7eda692bcdd349498cf6e5b37ae3b4cea927", func := "planisphere/planispherelaw20.QuadSame", spec := "quadSame", unfollowed := true, recurses := true, named := ["math/bits.overflowError"], apart := false }
def QuadSameSaid : Prop := quadSameRow.holds Try.pinned (OpenSpec.ofChange quadSameSpec)

/-- ITS FALSE NEIGHBOUR: 'it returns false'. Refute it at one input. -/
def quadSameWrong : ChangeSpec := { name := "quadSame", fn := fun _ => fun
  | [d1, d2, d3, d4, d5, d6] => { results := [.lit (.bool false)], args := [d1, d2, d3, d4, d5, d6] }
  | _ => none }
def QuadSameWrongFalsely : Prop := quadSameRow.holds Try.pinned (OpenSpec.ofChange quadSameWrong)

/-- 'planispherelaw20.QuadFinds': WHATEVER THE INPUT: true; the input reads as it did. -/
def quadFindsSpec : ChangeSpec := { name := "quadFinds", fn := fun _ => fun
  | [d1, d2, d3] => { results := [.lit (.bool true)], args := [d1, d2, d3] }
  | _ => none }
def quadFindsRow : OpenClaim := { program := "ytibdehlmflaodaa", sum := "6bf1f70b8c0aeb53e0e9e542e83e7eda692bcdd349498cf6e5b37ae3b4cea927", func := "planisphere/planispherelaw20.QuadFinds", spec := "quadFinds", unfollowed := true, recurses := true, named := ["math/bits.overflowError"], apart := false }
def QuadFindsSaid : Prop := quadFindsRow.holds Try.pinned (OpenSpec.ofChange quadFindsSpec)

/-- ITS FALSE NEIGHBOUR: 'it returns false'. Refute it at one input. -/
def quadFindsWrong : ChangeSpec := { name := "quadFinds", fn := fun _ => fun
  | [d1, d2, d3] => { results := [.lit (.bool false)], args := [d1, d2, d3] }
  | _ => none }
def QuadFindsWrongFalsely : Prop := quadFindsRow.holds Try.pinned (OpenSpec.ofChange quadFindsWrong)

/-- 'planispherelaw20.QuadLists': WHATEVER THE INPUT: true; the input reads as it did. -/
def quadListsSpec : ChangeSpec := { name := "quadLists", fn := fun _ => fun
  | [d1, d2] => { results := [.lit (.bool true)], args := [d1, d2] }
  | _ => none }
def quadListsRow : OpenClaim := { program := "ytibdehlmflaodaa", sum := "6bf1f70b8c0aeb53e0e9e542e83e7eda692bcdd349498cf6e5b37ae3b4cea927", func := "planisphere/planispherelaw20.QuadLists", spec := "quadLists", unfollowed := true, recurses := true, named := ["math/bits.overflowError"], apart := false }
def QuadListsSaid : Prop := quadListsRow.holds Try.pinned (OpenSpec.ofChange quadListsSpec)

/-- ITS FALSE NEIGHBOUR: 'it returns false'. Refute it at one input. -/
def quadListsWrong : ChangeSpec := { name := "quadLists", fn := fun _ => fun
  | [d1, d2] => { results := [.lit (.bool false)], args := [d1, d2] }
  | _ => none }
def QuadListsWrongFalsely : Prop := quadListsRow.holds Try.pinned (OpenSpec.ofChange quadListsWrong)

/-- 'planispherelaw20.QuadWithin': WHATEVER THE INPUT: true; the input reads as it did. -/
def quadWithinSpec : ChangeSpec := { name := "quadWithin", fn := fun _ => fun
  | [d1, d2] => { results := [.lit (.bool true)], args := [d1, d2] }
  | _ => none }
def quadWithinRow : OpenClaim := { program := "ytibdehlmflaodaa", sum := "6bf1f70b8c0aeb53e0e9e542e83e7eda692bcdd349498cf6e5b37ae3b4cea927", func := "planisphere/planispherelaw20.QuadWithin", spec := "quadWithin", unfollowed := true, recurses := true, named := ["math/bits.overflowError"], apart := false }
def QuadWithinSaid : Prop := quadWithinRow.holds Try.pinned (OpenSpec.ofChange quadWithinSpec)

/-- ITS FALSE NEIGHBOUR: 'it returns false'. Refute it at one input. -/
def quadWithinWrong : ChangeSpec := { name := "quadWithin", fn := fun _ => fun
  | [d1, d2] => { results := [.lit (.bool false)], args := [d1, d2] }
  | _ => none }
def QuadWithinWrongFalsely : Prop := quadWithinRow.holds Try.pinned (OpenSpec.ofChange quadWithinWrong)

/- THE SECOND FORM. 'bulk': how many values and letters a reading holds, each counted each time it is reached (what is shared counts as often as it is met; a slice's spare places count too). A statement '..UptoSaid' is the law's where the arguments, and the package variables that the reading takes, are together of bulk at most 1048576: NARROWER than '..Said'. Prove '..Said' where nothing that the law and all that it calls make is longer than what came in: it says more and counts as full. Else prove '..UptoSaid'. A law counts once. -/
mutual
def uptoBulk {H : Type} : DataW H → Nat
  | .lit (.string bytes) => bytes.length + 1
  | .lit _ => 1
  | .nil => 1
  | .ptr d => uptoBulk d + 1
  | .slice elems spare => uptoBulkAll elems + uptoBulkAll spare + 1
  | .agg parts => uptoBulkAll parts + 1
  | .iface _ d => uptoBulk d + 1
  | .map entries => uptoBulkEntries entries + 1
  | .held _ => 1
def uptoBulkAll {H : Type} : List (DataW H) → Nat
  | [] => 0
  | d :: r => uptoBulk d + uptoBulkAll r
def uptoBulkEntries {H : Type} : List (Lit × DataW H) → Nat
  | [] => 0
  | x :: r => uptoBulkEntry x + uptoBulkEntries r
def uptoBulkEntry {H : Type} : Lit × DataW H → Nat
  | (.string bytes, d) => bytes.length + uptoBulk d + 1
  | (_, d) => uptoBulk d + 1
 end
def uptoSmall : (H : Type) → List (DataW H) → Bool := fun _ ds => decide (uptoBulkAll ds ≤ 1048576)
def OpenSpec.upto (s : _root_.Go.ChangeSpec) : _root_.Go.OpenSpec := { _root_.Go.OpenSpec.ofChange s with cond := some uptoSmall }

/-- 'planispherelaw20.QuadCodes', WHERE WHAT IT READS IS OF BULK AT MOST 1048576: true; the input reads as it did. -/
def quadCodesUptoRow : OpenClaim := { program := "ytibdehlmflaodaa", sum := "6bf1f70b8c0aeb53e0e9e542e83e7eda692bcdd349498cf6e5b37ae3b4cea927", func := "planisphere/planispherelaw20.QuadCodes", spec := "quadCodes", unfollowed := true, recurses := true, named := ["math/bits.overflowError"], apart := false, narrowed := true }
def QuadCodesUptoSaid : Prop := quadCodesUptoRow.holds Try.pinned (OpenSpec.upto quadCodesSpec)

/-- 'planispherelaw20.QuadSame', WHERE WHAT IT READS IS OF BULK AT MOST 1048576: true; the input reads as it did. -/
def quadSameUptoRow : OpenClaim := { program := "ytibdehlmflaodaa", sum := "6bf1f70b8c0aeb53e0e9e542e83e7eda692bcdd349498cf6e5b37ae3b4cea927", func := "planisphere/planispherelaw20.QuadSame", spec := "quadSame", unfollowed := true, recurses := true, named := ["math/bits.overflowError"], apart := false, narrowed := true }
def QuadSameUptoSaid : Prop := quadSameUptoRow.holds Try.pinned (OpenSpec.upto quadSameSpec)

/-- 'planispherelaw20.QuadFinds', WHERE WHAT IT READS IS OF BULK AT MOST 1048576: true; the input reads as it did. -/
def quadFindsUptoRow : OpenClaim := { program := "ytibdehlmflaodaa", sum := "6bf1f70b8c0aeb53e0e9e542e83e7eda692bcdd349498cf6e5b37ae3b4cea927", func := "planisphere/planispherelaw20.QuadFinds", spec := "quadFinds", unfollowed := true, recurses := true, named := ["math/bits.overflowError"], apart := false, narrowed := true }
def QuadFindsUptoSaid : Prop := quadFindsUptoRow.holds Try.pinned (OpenSpec.upto quadFindsSpec)

/-- 'planispherelaw20.QuadLists', WHERE WHAT IT READS IS OF BULK AT MOST 1048576: true; the input reads as it did. -/
def quadListsUptoRow : OpenClaim := { program := "ytibdehlmflaodaa", sum := "6bf1f70b8c0aeb53e0e9e542e83e7eda692bcdd349498cf6e5b37ae3b4cea927", func := "planisphere/planispherelaw20.QuadLists", spec := "quadLists", unfollowed := true, recurses := true, named := ["math/bits.overflowError"], apart := false, narrowed := true }
def QuadListsUptoSaid : Prop := quadListsUptoRow.holds Try.pinned (OpenSpec.upto quadListsSpec)

/-- 'planispherelaw20.QuadWithin', WHERE WHAT IT READS IS OF BULK AT MOST 1048576: true; the input reads as it did. -/
def quadWithinUptoRow : OpenClaim := { program := "ytibdehlmflaodaa", sum := "6bf1f70b8c0aeb53e0e9e542e83e7eda692bcdd349498cf6e5b37ae3b4cea927", func := "planisphere/planispherelaw20.QuadWithin", spec := "quadWithin", unfollowed := true, recurses := true, named := ["math/bits.overflowError"], apart := false, narrowed := true }
def QuadWithinUptoSaid : Prop := quadWithinUptoRow.holds Try.pinned (OpenSpec.upto quadWithinSpec)

end Rows
end Go.Proofs.Ytibdehlmflaodaa
