/-
  No cell of these rows narrows 'for every input' (looked for: loops, veiled, ifaces, maps, wideKeys, modest, calm, conditions, laid).
  DERIVED. THE GIVEN ROWS OF THIS SEAT. 2 by the template 'for every input the law returns true; each argument reads behind the call as it read before'; 0 by the template 'total and deterministic' (their statements: YtibdehlmflaodaaGreatTotals.lean).
  GIVEN WITH THE SEED: the statements are not yours to turn. If you find one false, say at which input.
  Laid BY PROGRAM, IN A SANDBOX (cutbox-rows.mjs): the forced cells as the released guide's own fill.sh prints them over the translation 5381f5939ec36b3a… (all of the seat's roots in one cut). By AI agents, Wed Nov 11 2026. No macro, syntax, notation, axiom, sorry.
-/
import Derived.Test.YtibdehlmflaodaaGreatChecked
import GoSem.Claim
import GoSem.ClaimJoined
import GoSem.ClaimMapViews
import Derived.JoinedTies
import Derived.KernelRfl
namespace Go.Proofs.YtibdehlmflaodaaGreat
/- THE CELL 'sum', in the pinned program and in every row, IS THE sha256 OF THE DUMP (.gsa) THAT YtibdehlmflaodaaGreatProg.lean LOADS. Nothing in Lean hashes anything: it is a label: what it is worth is what the hold of that sum in a sandbox is worth. -/
noncomputable def Tryz.pinned : Pinned := { name := "ytibdehlmflaodaagreat", sum := "5381f5939ec36b3a96e84a6e7d4356778f2baeb51c6a229e15a72054fe03d6af", checked := Tryz.checked }
namespace Rows
def none {H : Type} : Left H := { results := [], args := [] }

/-- 'planispherelaw20.QuadNames': WHATEVER THE INPUT: true; the input reads as it did. -/
def quadNamesSpec : ChangeSpec := { name := "quadNames", fn := fun _ => fun
  | [] => { results := [.lit (.bool true)], args := [] }
  | _ => none }
def quadNamesRow : OpenClaim := { program := "ytibdehlmflaodaagreat", sum := "5381f5939ec36b3a96e84a6e7d4356778f2baeb51c6a229e15a72054fe03d6af", func := "planisphere/planispherelaw20.QuadNames", spec := "quadNames", unfollowed := true, recurses := true, named := ["math/bits.overflowError"], apart := false }
def QuadNamesSaid : Prop := quadNamesRow.holds Tryz.pinned (OpenSpec.ofChange quadNamesSpec)

/-- ITS FALSE NEIGHBOUR: 'it returns false'. Refute it at one input. -/
def quadNamesWrong : ChangeSpec := { name := "quadNames", fn := fun _ => fun
  | [] => { results := [.lit (.bool false)], args := [] }
  | _ => none }
def QuadNamesWrongFalsely : Prop := quadNamesRow.holds Tryz.pinned (OpenSpec.ofChange quadNamesWrong)

/-- 'planispherelaw20.QuadNear': WHATEVER THE INPUT: true; the input reads as it did. -/
def quadNearSpec : ChangeSpec := { name := "quadNear", fn := fun _ => fun
  | [d1, d2, d3, d4] => { results := [.lit (.bool true)], args := [d1, d2, d3, d4] }
  | _ => none }
def quadNearRow : OpenClaim := { program := "ytibdehlmflaodaagreat", sum := "5381f5939ec36b3a96e84a6e7d4356778f2baeb51c6a229e15a72054fe03d6af", func := "planisphere/planispherelaw20.QuadNear", spec := "quadNear", unfollowed := true, recurses := true, named := ["math/bits.overflowError"], apart := false }
def QuadNearSaid : Prop := quadNearRow.holds Tryz.pinned (OpenSpec.ofChange quadNearSpec)

/-- ITS FALSE NEIGHBOUR: 'it returns false'. Refute it at one input. -/
def quadNearWrong : ChangeSpec := { name := "quadNear", fn := fun _ => fun
  | [d1, d2, d3, d4] => { results := [.lit (.bool false)], args := [d1, d2, d3, d4] }
  | _ => none }
def QuadNearWrongFalsely : Prop := quadNearRow.holds Tryz.pinned (OpenSpec.ofChange quadNearWrong)

/- THE SECOND FORM. 'bulk': how many values and letters a reading holds, each counted each time it is reached (what is shared counts as often as it is met; a slice's spare places count too). A statement '..UptoSaid' is the law's where the arguments, and the package variables that the reading takes, are together of bulk at most 1048576: NARROWER than '..Said'. Prove '..Said' where nothing that the law and all that it calls make is longer than what came in: it says more and counts as full. Else prove '..UptoSaid'. A law counts once. -/
mutual
def uptoBulk {H : Type} : DataW H → Nat
  | .lit (.string bytes) => bytes.length + 1
  | .lit _ => 1
  | .nil => 1
  | .ptr d => uptoBulk d + 1
  | .slice elems spare => uptoBulkAll elems + uptoBulkAll spare + 1
  | .agg parts => uptoBulkAll parts + 1
  | .iface _ d => uptoBulk d + 1
  | .map entries => uptoBulkEntries entries + 1
  | .held _ => 1
def uptoBulkAll {H : Type} : List (DataW H) → Nat
  | [] => 0
  | d :: r => uptoBulk d + uptoBulkAll r
def uptoBulkEntries {H : Type} : List (Lit × DataW H) → Nat
  | [] => 0
  | x :: r => uptoBulkEntry x + uptoBulkEntries r
def uptoBulkEntry {H : Type} : Lit × DataW H → Nat
  | (.string bytes, d) => bytes.length + uptoBulk d + 1
  | (_, d) => uptoBulk d + 1
 end
def uptoSmall : (H : Type) → List (DataW H) → Bool := fun _ ds => decide (uptoBulkAll ds ≤ 1048576)
def OpenSpec.upto (s : _root_.Go.ChangeSpec) : _root_.Go.OpenSpec := { _root_.Go.OpenSpec.ofChange s with cond := some uptoSmall }

/-- 'planispherelaw20.QuadNames', WHERE WHAT IT READS IS OF BULK AT MOST 1048576: true; the input reads as it did. -/
def quadNamesUptoRow : OpenClaim := { program := "ytibdehlmflaodaagreat", sum := "5381f5939ec36b3a96e84a6e7d4356778f2baeb51c6a229e15a72054fe03d6af", func := "planisphere/planispherelaw20.QuadNames", spec := "quadNames", unfollowed := true, recurses := true, named := ["math/bits.overflowError"], apart := false, narrowed := true }
def QuadNamesUptoSaid : Prop := quadNamesUptoRow.holds Tryz.pinned (OpenSpec.upto quadNamesSpec)

/-- 'planispherelaw20.QuadNear', WHERE WHAT IT READS IS OF BULK AT MOST 1048576: true; the input reads as it did. -/
def quadNearUptoRow : OpenClaim := { program := "ytibdehlmflaodaagreat", sum := "5381f5939ec36b3a96e84a6e7d4356778f2baeb51c6a229e15a72054fe03d6af", func := "planisphere/planispherelaw20.QuadNear", spec := "quadNear", unfollowed := true, recurses := true, named := ["math/bits.overflowError"], apart := false, narrowed := true }
def QuadNearUptoSaid : Prop := quadNearUptoRow.holds Tryz.pinned (OpenSpec.upto quadNearSpec)

end Rows
end Go.Proofs.YtibdehlmflaodaaGreat
