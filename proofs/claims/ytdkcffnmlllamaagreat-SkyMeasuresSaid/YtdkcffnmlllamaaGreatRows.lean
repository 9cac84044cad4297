/-
  No cell of these rows narrows 'for every input' (looked for: loops, veiled, ifaces, maps, wideKeys, modest, calm, conditions, laid).
  DERIVED. THE GIVEN ROWS OF THIS SEAT. 6 by the template 'for every input the law returns true; each argument reads behind the call as it read before'; 0 by the template 'total and deterministic' (their statements: YtdkcffnmlllamaaGreatTotals.lean).
  GIVEN WITH THE SEED: the statements are not yours to turn. If you find one false, say at which input.
  Laid BY PROGRAM, IN A SANDBOX (cutbox-rows.mjs): the forced cells as the released guide's own fill.sh prints them over the translation adba1759a149936e… (all of the seat's roots in one cut). By AI agents, Wed Nov 11 2026. No macro, syntax, notation, axiom, sorry.
-/
import Derived.Test.YtdkcffnmlllamaaGreatChecked
import GoSem.Claim
import GoSem.ClaimJoined
import GoSem.ClaimMapViews
import Derived.JoinedTies
import Derived.KernelRfl
namespace Go.Proofs.YtdkcffnmlllamaaGreat
/- THE CELL 'sum', in the pinned program and in every row, IS THE sha256 OF THE DUMP (.gsa) THAT YtdkcffnmlllamaaGreatProg.lean LOADS. Nothing in Lean hashes anything: it is a label: what it is worth is what the hold of that sum in a sandbox is worth. -/
noncomputable def Tryz.pinned : Pinned := { name := "ytdkcffnmlllamaagreat", sum := "adba1759a149936eee68a4c437a03cf1645a0ede63a09186c7344ed9b415ecf8", checked := Tryz.checked }
namespace Rows
def none {H : Type} : Left H := { results := [], args := [] }

/-- 'planispherelaw12.SkyMeasures': WHATEVER THE INPUT: true; the input reads as it did. -/
def skyMeasuresSpec : ChangeSpec := { name := "skyMeasures", fn := fun _ => fun
  | [d1, d2, d3, d4, d5] => { results := [.lit (.bool true)], args := [d1, d2, d3, d4, d5] }
  | _ => none }
def skyMeasuresRow : OpenClaim := { program := "ytdkcffnmlllamaagreat", sum := "adba1759a149936eee68a4c437a03cf1645a0ede63a09186c7344ed9b415ecf8", func := "planisphere/planispherelaw12.SkyMeasures", spec := "skyMeasures", unfollowed := true, recurses := true, named := ["math/bits.overflowError"], leaving := true, apart := false }
def SkyMeasuresSaid : Prop := skyMeasuresRow.holds Tryz.pinned (OpenSpec.ofChange skyMeasuresSpec)

/-- ITS FALSE NEIGHBOUR: 'it returns false'. Refute it at one input. -/
def skyMeasuresWrong : ChangeSpec := { name := "skyMeasures", fn := fun _ => fun
  | [d1, d2, d3, d4, d5] => { results := [.lit (.bool false)], args := [d1, d2, d3, d4, d5] }
  | _ => none }
def SkyMeasuresWrongFalsely : Prop := skyMeasuresRow.holds Tryz.pinned (OpenSpec.ofChange skyMeasuresWrong)

/-- 'planispherelaw12.SkyBetween': WHATEVER THE INPUT: true; the input reads as it did. -/
def skyBetweenSpec : ChangeSpec := { name := "skyBetween", fn := fun _ => fun
  | [d] => { results := [.lit (.bool true)], args := [d] }
  | _ => none }
def skyBetweenRow : OpenClaim := { program := "ytdkcffnmlllamaagreat", sum := "adba1759a149936eee68a4c437a03cf1645a0ede63a09186c7344ed9b415ecf8", func := "planisphere/planispherelaw12.SkyBetween", spec := "skyBetween", unfollowed := true, recurses := true, named := ["math/bits.overflowError"], leaving := true, apart := false }
def SkyBetweenSaid : Prop := skyBetweenRow.holds Tryz.pinned (OpenSpec.ofChange skyBetweenSpec)

/-- ITS FALSE NEIGHBOUR: 'it returns false'. Refute it at one input. -/
def skyBetweenWrong : ChangeSpec := { name := "skyBetween", fn := fun _ => fun
  | [d] => { results := [.lit (.bool false)], args := [d] }
  | _ => none }
def SkyBetweenWrongFalsely : Prop := skyBetweenRow.holds Tryz.pinned (OpenSpec.ofChange skyBetweenWrong)

/-- 'planispherelaw12.SkyLinear': WHATEVER THE INPUT: true; the input reads as it did. -/
def skyLinearSpec : ChangeSpec := { name := "skyLinear", fn := fun _ => fun
  | [d1, d2, d3, d4, d5, d6] => { results := [.lit (.bool true)], args := [d1, d2, d3, d4, d5, d6] }
  | _ => none }
def skyLinearRow : OpenClaim := { program := "ytdkcffnmlllamaagreat", sum := "adba1759a149936eee68a4c437a03cf1645a0ede63a09186c7344ed9b415ecf8", func := "planisphere/planispherelaw12.SkyLinear", spec := "skyLinear", unfollowed := true, recurses := true, named := ["math/bits.overflowError"], leaving := true, apart := false }
def SkyLinearSaid : Prop := skyLinearRow.holds Tryz.pinned (OpenSpec.ofChange skyLinearSpec)

/-- ITS FALSE NEIGHBOUR: 'it returns false'. Refute it at one input. -/
def skyLinearWrong : ChangeSpec := { name := "skyLinear", fn := fun _ => fun
  | [d1, d2, d3, d4, d5, d6] => { results := [.lit (.bool false)], args := [d1, d2, d3, d4, d5, d6] }
  | _ => none }
def SkyLinearWrongFalsely : Prop := skyLinearRow.holds Tryz.pinned (OpenSpec.ofChange skyLinearWrong)

/-- 'planispherelaw12.SkyMoved': WHATEVER THE INPUT: true; the input reads as it did. -/
def skyMovedSpec : ChangeSpec := { name := "skyMoved", fn := fun _ => fun
  | [d1, d2, d3, d4, d5] => { results := [.lit (.bool true)], args := [d1, d2, d3, d4, d5] }
  | _ => none }
def skyMovedRow : OpenClaim := { program := "ytdkcffnmlllamaagreat", sum := "adba1759a149936eee68a4c437a03cf1645a0ede63a09186c7344ed9b415ecf8", func := "planisphere/planispherelaw12.SkyMoved", spec := "skyMoved", unfollowed := true, recurses := true, named := ["math/bits.overflowError"], leaving := true, apart := false }
def SkyMovedSaid : Prop := skyMovedRow.holds Tryz.pinned (OpenSpec.ofChange skyMovedSpec)

/-- ITS FALSE NEIGHBOUR: 'it returns false'. Refute it at one input. -/
def skyMovedWrong : ChangeSpec := { name := "skyMoved", fn := fun _ => fun
  | [d1, d2, d3, d4, d5] => { results := [.lit (.bool false)], args := [d1, d2, d3, d4, d5] }
  | _ => none }
def SkyMovedWrongFalsely : Prop := skyMovedRow.holds Tryz.pinned (OpenSpec.ofChange skyMovedWrong)

/-- 'planispherelaw12.SkyNames': WHATEVER THE INPUT: true; the input reads as it did. -/
def skyNamesSpec : ChangeSpec := { name := "skyNames", fn := fun _ => fun
  | [] => { results := [.lit (.bool true)], args := [] }
  | _ => none }
def skyNamesRow : OpenClaim := { program := "ytdkcffnmlllamaagreat", sum := "adba1759a149936eee68a4c437a03cf1645a0ede63a09186c7344ed9b415ecf8", func := "planisphere/planispherelaw12.SkyNames", spec := "skyNames", unfollowed := true, recurses := true, named := ["math/bits.overflowError"], leaving := true, apart := false }
def SkyNamesSaid : Prop := skyNamesRow.holds Tryz.pinned (OpenSpec.ofChange skyNamesSpec)

/-- ITS FALSE NEIGHBOUR: 'it returns false'. Refute it at one input. -/
def skyNamesWrong : ChangeSpec := { name := "skyNames", fn := fun _ => fun
  | [] => { results := [.lit (.bool false)], args := [] }
  | _ => none }
def SkyNamesWrongFalsely : Prop := skyNamesRow.holds Tryz.pinned (OpenSpec.ofChange skyNamesWrong)

/-- 'planispherelaw12.SkyEven': WHATEVER THE INPUT: true; the input reads as it did. -/
def skyEvenSpec : ChangeSpec := { name := "skyEven", fn := fun _ => fun
  | [d1, d2, d3, d4, d5] => { results := [.lit (.bool true)], args := [d1, d2, d3, d4, d5] }
  | _ => none }
def skyEvenRow : OpenClaim := { program := "ytdkcffnmlllamaagreat", sum := "adba1759a149936eee68a4c437a03cf1645a0ede63a09186c7344ed9b415ecf8", func := "planisphere/planispherelaw12.SkyEven", spec := "skyEven", unfollowed := true, recurses := true, named := ["math/bits.overflowError"], leaving := true, apart := false }
def SkyEvenSaid : Prop := skyEvenRow.holds Tryz.pinned (OpenSpec.ofChange skyEvenSpec)

/-- ITS FALSE NEIGHBOUR: 'it returns false'. Refute it at one input. -/
def skyEvenWrong : ChangeSpec := { name := "skyEven", fn := fun _ => fun
  | [d1, d2, d3, d4, d5] => { results := [.lit (.bool false)], args := [d1, d2, d3, d4, d5] }
  | _ => none }
def SkyEvenWrongFalsely : Prop := skyEvenRow.holds Tryz.pinned (OpenSpec.ofChange skyEvenWrong)

/- THE SECOND FORM. 'bulk': how many values and letters a reading holds, each counted each time it is reached (what is shared counts as often as it is met; a slice's spare places count too). A statement '..UptoSaid' is the law's where the arguments, and the package variables that the reading takes, are together of bulk at most 1048576: NARROWER than '..Said'. Prove '..Said' where nothing that the law and all that it calls make is longer than what came in: it says more and counts as full. Else prove '..UptoSaid'. A law counts once. -/
mutual
def uptoBulk {H : Type} : DataW H → Nat
  | .lit (.string bytes) => bytes.length + 1
  | .lit _ => 1
  | .nil => 1
  | .ptr d => uptoBulk d + 1
  | .slice elems spare => uptoBulkAll elems + uptoBulkAll spare + 1
  | .agg parts => uptoBulkAll parts + 1
  | .iface _ d => uptoBulk d + 1
  | .map entries => uptoBulkEntries entries + 1
  | .held _ => 1
def uptoBulkAll {H : Type} : List (DataW H) → Nat
  | [] => 0
  | d :: r => uptoBulk d + uptoBulkAll r
def uptoBulkEntries {H : Type} : List (Lit × DataW H) → Nat
  | [] => 0
  | x :: r => uptoBulkEntry x + uptoBulkEntries r
def uptoBulkEntry {H : Type} : Lit × DataW H → Nat
  | (.string bytes, d) => bytes.length + uptoBulk d + 1
  | (_, d) => uptoBulk d + 1
 end
def uptoSmall : (H : Type) → List (DataW H) → Bool := fun _ ds => decide (uptoBulkAll ds ≤ 1048576)
def OpenSpec.upto (s : _root_.Go.ChangeSpec) : _root_.Go.OpenSpec := { _root_.Go.OpenSpec.ofChange s with cond := some uptoSmall }

/-- 'planispherelaw12.SkyMeasures', WHERE WHAT IT READS IS OF BULK AT MOST 1048576: true; the input reads as it did. -/
def skyMeasuresUptoRow : OpenClaim := { program := "ytdkcffnmlllamaagreat", sum := "adba1759a149936eee68a4c437a03cf1645a0ede63a09186c7344ed9b415ecf8", func := "planisphere/planispherelaw12.SkyMeasures", spec := "skyMeasures", unfollowed := true, recurses := true, named := ["math/bits.overflowError"], leaving := true, apart := false, narrowed := true }
def SkyMeasuresUptoSaid : Prop := skyMeasuresUptoRow.holds Tryz.pinned (OpenSpec.upto skyMeasuresSpec)

/-- 'planispherelaw12.SkyBetween', WHERE WHAT IT READS IS OF BULK AT MOST 1048576: true; the input reads as it did. -/
def skyBetweenUptoRow : OpenClaim := { program := "ytdkcffnmlllamaagreat", sum := "adba1759a149936eee68a4c437a03cf1645a0ede63a09186c7344ed9b415ecf8", func := "planisphere/planispherelaw12.SkyBetween", spec := "skyBetween", unfollowed := true, recurses := true, named := ["math/bits.overflowError"], leaving := true, apart := false, narrowed := true }
def SkyBetweenUptoSaid : Prop := skyBetweenUptoRow.holds Tryz.pinned (OpenSpec.upto skyBetweenSpec)

/-- 'planispherelaw12.SkyLinear', WHERE WHAT IT READS IS OF BULK AT MOST 1048576: true; the input reads as it did. -/
def skyLinearUptoRow : OpenClaim := { program := "ytdkcffnmlllamaagreat", sum := "adba1759a149936eee68a4c437a03cf1645a0ede63a09186c7344ed9b415ecf8", func := "planisphere/planispherelaw12.SkyLinear", spec := "skyLinear", unfollowed := true, recurses := true, named := ["math/bits.overflowError"], leaving := true, apart := false, narrowed := true }
def SkyLinearUptoSaid : Prop := skyLinearUptoRow.holds Tryz.pinned (OpenSpec.upto skyLinearSpec)

/-- 'planispherelaw12.SkyMoved', WHERE WHAT IT READS IS OF BULK AT MOST 1048576: true; the input reads as it did. -/
def skyMovedUptoRow : OpenClaim := { program := "ytdkcffnmlllamaagreat", sum := "adba1759a149936eee68a4c437a03cf1645a0ede63a09186c7344ed9b415ecf8", func := "planisphere/planispherelaw12.SkyMoved", spec := "skyMoved", unfollowed := true, recurses := true, named := ["math/bits.overflowError"], leaving := true, apart := false, narrowed := true }
def SkyMovedUptoSaid : Prop := skyMovedUptoRow.holds Tryz.pinned (OpenSpec.upto skyMovedSpec)

/-- 'planispherelaw12.SkyNames', WHERE WHAT IT READS IS OF BULK AT MOST 1048576: true; the input reads as it did. -/
def skyNamesUptoRow : OpenClaim := { program := "ytdkcffnmlllamaagreat", sum := "adba1759a149936eee68a4c437a03cf1645a0ede63a09186c7344ed9b415ecf8", func := "planisphere/planispherelaw12.SkyNames", spec := "skyNames", unfollowed := true, recurses := true, named := ["math/bits.overflowError"], leaving := true, apart := false, narrowed := true }
def SkyNamesUptoSaid : Prop := skyNamesUptoRow.holds Tryz.pinned (OpenSpec.upto skyNamesSpec)

/-- 'planispherelaw12.SkyEven', WHERE WHAT IT READS IS OF BULK AT MOST 1048576: true; the input reads as it did. -/
def skyEvenUptoRow : OpenClaim := { program := "ytdkcffnmlllamaagreat", sum := "adba1759a149936eee68a4c437a03cf1645a0ede63a09186c7344ed9b415ecf8", func := "planisphere/planispherelaw12.SkyEven", spec := "skyEven", unfollowed := true, recurses := true, named := ["math/bits.overflowError"], leaving := true, apart := false, narrowed := true }
def SkyEvenUptoSaid : Prop := skyEvenUptoRow.holds Tryz.pinned (OpenSpec.upto skyEvenSpec)

end Rows
end Go.Proofs.YtdkcffnmlllamaaGreat
