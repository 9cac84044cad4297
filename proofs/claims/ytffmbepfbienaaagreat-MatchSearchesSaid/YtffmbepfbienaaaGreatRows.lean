/-
  No cell of these rows narrows 'for every input' (looked for: loops, veiled, ifaces, maps, wideKeys, modest, calm, conditions, laid).
  DERIVED. THE GIVEN ROWS OF THIS SEAT. 7 by the template 'for every input the law returns true; each argument reads behind the call as it read before'; 0 by the template 'total and deterministic' (their statements: YtffmbepfbienaaaGreatTotals.lean).
  GIVEN WITH THE SEED: the statements are not yours to turn. If you find one false, say at which input.
  Laid BY PROGRAM, IN A SANDBOX (cutbox-rows.mjs): the forced cells as the released guide's own fill.sh prints them over the translation b7bce0b56b2269f4… (all of the seat's roots in one cut). By AI agents, Wed Nov 11 2026. No macro, syntax, notation, axiom, sorry.
-/
import Derived.Test.YtffmbepfbienaaaGreatChecked
import GoSem.Claim
import GoSem.ClaimJoined
import GoSem.ClaimMapViews
import Derived.JoinedTies
import Derived.KernelRfl
namespace Go.Proofs.YtffmbepfbienaaaGreat
/- THE CELL 'sum', in the pinned program and in every row, IS THE sha256 OF THE DUMP (.gsa) THAT YtffmbepfbienaaaGreatProg.lean LOADS. Nothing in Lean hashes anything: it is a label: what it is worth is what the hold of that sum in a sandbox is worth. -/
noncomputable def Tryz.pinned : Pinned := { name := "ytffmbepfbienaaagreat", sum := "b7bce0b56b2269f440f38ed1b70939f6d0f561c8d0a6108bcbae14d738a42446", checked := Tryz.checked }
namespace Rows
def none {H : Type} : Left H := { results := [], args := [] }

/-- 'planispherelaw21.MatchPlaces': WHATEVER THE INPUT: true; the input reads as it did. -/
def matchPlacesSpec : ChangeSpec := { name := "matchPlaces", fn := fun _ => fun
  | [d1, d2, d3, d4, d5] => { results := [.lit (.bool true)], args := [d1, d2, d3, d4, d5] }
  | _ => none }
def matchPlacesRow : OpenClaim := { program := "ytffmbepfbienaaagreat", sum := "b7bce0b56b2269f440f38ed1b70939f6d0f561c8d0a6108bcbae14d738a42446", func := "planisphere/planispherelaw21.MatchPlaces", spec := "matchPlaces", unfollowed := true, recurses := true, named := ["math/bits.overflowError"], apart := false }
def MatchPlacesSaid : Prop := matchPlacesRow.holds Tryz.pinned (OpenSpec.ofChange matchPlacesSpec)

/-- ITS FALSE NEIGHBOUR: 'it returns false'. Refute it at one input. -/
def matchPlacesWrong : ChangeSpec := { name := "matchPlaces", fn := fun _ => fun
  | [d1, d2, d3, d4, d5] => { results := [.lit (.bool false)], args := [d1, d2, d3, d4, d5] }
  | _ => none }
def MatchPlacesWrongFalsely : Prop := matchPlacesRow.holds Tryz.pinned (OpenSpec.ofChange matchPlacesWrong)

/-- 'planispherelaw21.MatchMore': WHATEVER THE INPUT: true; the input reads as it did. -/
def matchMoreSpec : ChangeSpec := { name := "matchMore", fn := fun _ => fun
  | [d1, d2, d3, d4] => { results := [.lit (.bool true)], args := [d1, d2, d3, d4] }
  | _ => none }
def matchMoreRow : OpenClaim := { program := "ytffmbepfbienaaagreat", sum := "b7bce0b56b2269f440f38ed1b70939f6d0f561c8d0a6108bcbae14d738a42446", func := "planisphere/planispherelaw21.MatchMore", spec := "matchMore", unfollowed := true, recurses := true, named := ["math/bits.overflowError"], apart := false }
def MatchMoreSaid : Prop := matchMoreRow.holds Tryz.pinned (OpenSpec.ofChange matchMoreSpec)

/-- ITS FALSE NEIGHBOUR: 'it returns false'. Refute it at one input. -/
def matchMoreWrong : ChangeSpec := { name := "matchMore", fn := fun _ => fun
  | [d1, d2, d3, d4] => { results := [.lit (.bool false)], args := [d1, d2, d3, d4] }
  | _ => none }
def MatchMoreWrongFalsely : Prop := matchMoreRow.holds Tryz.pinned (OpenSpec.ofChange matchMoreWrong)

/-- 'planispherelaw21.MatchPairs': WHATEVER THE INPUT: true; the input reads as it did. -/
def matchPairsSpec : ChangeSpec := { name := "matchPairs", fn := fun _ => fun
  | [d1, d2, d3, d4, d5, d6, d7] => { results := [.lit (.bool true)], args := [d1, d2, d3, d4, d5, d6, d7] }
  | _ => none }
def matchPairsRow : OpenClaim := { program := "ytffmbepfbienaaagreat", sum := "b7bce0b56b2269f440f38ed1b70939f6d0f561c8d0a6108bcbae14d738a42446", func := "planisphere/planispherelaw21.MatchPairs", spec := "matchPairs", unfollowed := true, recurses := true, named := ["math/bits.overflowError"], apart := false }
def MatchPairsSaid : Prop := matchPairsRow.holds Tryz.pinned (OpenSpec.ofChange matchPairsSpec)

/-- ITS FALSE NEIGHBOUR: 'it returns false'. Refute it at one input. -/
def matchPairsWrong : ChangeSpec := { name := "matchPairs", fn := fun _ => fun
  | [d1, d2, d3, d4, d5, d6, d7] => { results := [.lit (.bool false)], args := [d1, d2, d3, d4, d5, d6, d7] }
  | _ => none }
def MatchPairsWrongFalsely : Prop := matchPairsRow.holds Tryz.pinned (OpenSpec.ofChange matchPairsWrong)

/-- 'planispherelaw21.MatchNearest': WHATEVER THE INPUT: true; the input reads as it did. -/
def matchNearestSpec : ChangeSpec := { name := "matchNearest", fn := fun _ => fun
  | [d1, d2, d3, d4] => { results := [.lit (.bool true)], args := [d1, d2, d3, d4] }
  | _ => none }
def matchNearestRow : OpenClaim := { program := "ytffmbepfbienaaagreat", sum := "b7bce0b56b2269f440f38ed1b70939f6d0f561c8d0a6108bcbae14d738a42446", func := "planisphere/planispherelaw21.MatchNearest", spec := "matchNearest", unfollowed := true, recurses := true, named := ["math/bits.overflowError"], apart := false }
def MatchNearestSaid : Prop := matchNearestRow.holds Tryz.pinned (OpenSpec.ofChange matchNearestSpec)

/-- ITS FALSE NEIGHBOUR: 'it returns false'. Refute it at one input. -/
def matchNearestWrong : ChangeSpec := { name := "matchNearest", fn := fun _ => fun
  | [d1, d2, d3, d4] => { results := [.lit (.bool false)], args := [d1, d2, d3, d4] }
  | _ => none }
def MatchNearestWrongFalsely : Prop := matchNearestRow.holds Tryz.pinned (OpenSpec.ofChange matchNearestWrong)

/-- 'planispherelaw21.MatchSearches': WHATEVER THE INPUT: true; the input reads as it did. -/
def matchSearchesSpec : ChangeSpec := { name := "matchSearches", fn := fun _ => fun
  | [d1, d2, d3, d4] => { results := [.lit (.bool true)], args := [d1, d2, d3, d4] }
  | _ => none }
def matchSearchesRow : OpenClaim := { program := "ytffmbepfbienaaagreat", sum := "b7bce0b56b2269f440f38ed1b70939f6d0f561c8d0a6108bcbae14d738a42446", func := "planisphere/planispherelaw21.MatchSearches", spec := "matchSearches", unfollowed := true, recurses := true, named := ["math/bits.overflowError"], apart := false }
def MatchSearchesSaid : Prop := matchSearchesRow.holds Tryz.pinned (OpenSpec.ofChange matchSearchesSpec)

/-- ITS FALSE NEIGHBOUR: 'it returns false'. Refute it at one input. -/
def matchSearchesWrong : ChangeSpec := { name := "matchSearches", fn := fun _ => fun
  | [d1, d2, d3, d4] => { results := [.lit (.bool false)], args := [d1, d2, d3, d4] }
  | _ => none }
def MatchSearchesWrongFalsely : Prop := matchSearchesRow.holds Tryz.pinned (OpenSpec.ofChange matchSearchesWrong)

/-- 'planispherelaw21.MatchSound': WHATEVER THE INPUT: true; the input reads as it did. -/
def matchSoundSpec : ChangeSpec := { name := "matchSound", fn := fun _ => fun
  | [d1, d2, d3, d4] => { results := [.lit (.bool true)], args := [d1, d2, d3, d4] }
  | _ => none }
def matchSoundRow : OpenClaim := { program := "ytffmbepfbienaaagreat", sum := "b7bce0b56b2269f440f38ed1b70939f6d0f561c8d0a6108bcbae14d738a42446", func := "planisphere/planispherelaw21.MatchSound", spec := "matchSound", unfollowed := true, recurses := true, named := ["math/bits.overflowError"], apart := false }
def MatchSoundSaid : Prop := matchSoundRow.holds Tryz.pinned (OpenSpec.ofChange matchSoundSpec)

/-- ITS FALSE NEIGHBOUR: 'it returns false'. Refute it at one input. -/
def matchSoundWrong : ChangeSpec := { name := "matchSound", fn := fun _ => fun
  | [d1, d2, d3, d4] => { results := [.lit (.bool false)], args := [d1, d2, d3, d4] }
  | _ => none }
def MatchSoundWrongFalsely : Prop := matchSoundRow.holds Tryz.pinned (OpenSpec.ofChange matchSoundWrong)

/-- 'planispherelaw21.MatchNames': WHATEVER THE INPUT: true; the input reads as it did. -/
def matchNamesSpec : ChangeSpec := { name := "matchNames", fn := fun _ => fun
  | [] => { results := [.lit (.bool true)], args := [] }
  | _ => none }
def matchNamesRow : OpenClaim := { program := "ytffmbepfbienaaagreat", sum := "b7bce0b56b2269f440f38ed1b70939f6d0f561c8d0a6108bcbae14d738a42446", func := "planisphere/planispherelaw21.MatchNames", spec := "matchNames", unfollowed := true, recurses := true, named := ["math/bits.overflowError"], apart := false }
def MatchNamesSaid : Prop := matchNamesRow.holds Tryz.pinned (OpenSpec.ofChange matchNamesSpec)

/-- ITS FALSE NEIGHBOUR: 'it returns false'. Refute it at one input. -/
def matchNamesWrong : ChangeSpec := { name := "matchNames", fn := fun _ => fun
  | [] => { results := [.lit (.bool false)], args := [] }
  | _ => none }
def MatchNamesWrongFalsely : Prop := matchNamesRow.holds Tryz.pinned (OpenSpec.ofChange matchNamesWrong)

/- THE SECOND FORM. 'bulk': how many values and letters a reading holds, each counted each time it is reached (what is shared counts as often as it is met; a slice's spare places count too). A statement '..UptoSaid' is the law's where the arguments, and the package variables that the reading takes, are together of bulk at most 1048576: NARROWER than '..Said'. Prove '..Said' where nothing that the law and all that it calls make is longer than what came in: it says more and counts as full. Else prove '..UptoSaid'. A law counts once. -/
mutual
def uptoBulk {H : Type} : DataW H → Nat
  | .lit (.string bytes) => bytes.length + 1
  | .lit _ => 1
  | .nil => 1
  | .ptr d => uptoBulk d + 1
  | .slice elems spare => uptoBulkAll elems + uptoBulkAll spare + 1
  | .agg parts => uptoBulkAll parts + 1
  | .iface _ d => uptoBulk d + 1
  | .map entries => uptoBulkEntries entries + 1
  | .held _ => 1
def uptoBulkAll {H : Type} : List (DataW H) → Nat
  | [] => 0
  | d :: r => uptoBulk d + uptoBulkAll r
def uptoBulkEntries {H : Type} : List (Lit × DataW H) → Nat
  | [] => 0
  | x :: r => uptoBulkEntry x + uptoBulkEntries r
def uptoBulkEntry {H : Type} : Lit × DataW H → Nat
  | (.string bytes, d) => bytes.length + uptoBulk d + 1
  | (_, d) => uptoBulk d + 1
 end
def uptoSmall : (H : Type) → List (DataW H) → Bool := fun _ ds => decide (uptoBulkAll ds ≤ 1048576)
def OpenSpec.upto (s : _root_.Go.ChangeSpec) : _root_.Go.OpenSpec := { _root_.Go.OpenSpec.ofChange s with cond := some uptoSmall }

/-- 'planispherelaw21.MatchPlaces', WHERE WHAT IT READS IS OF BULK AT MOST 1048576: true; the input reads as it did. -/
def matchPlacesUptoRow : OpenClaim := { program := "ytffmbepfbienaaagreat", sum := "b7bce0b56b2269f440f38ed1b70939f6d0f561c8d0a6108bcbae14d738a42446", func := "planisphere/planispherelaw21.MatchPlaces", spec := "matchPlaces", unfollowed := true, recurses := true, named := ["math/bits.overflowError"], apart := false, narrowed := true }
def MatchPlacesUptoSaid : Prop := matchPlacesUptoRow.holds Tryz.pinned (OpenSpec.upto matchPlacesSpec)

/-- 'planispherelaw21.MatchMore', WHERE WHAT IT READS IS OF BULK AT MOST 1048576: true; the input reads as it did. -/
def matchMoreUptoRow : OpenClaim := { program := "ytffmbepfbienaaagreat", sum := "b7bce0b56b2269f440f38ed1b70939f6d0f561c8d0a6108bcbae14d738a42446", func := "planisphere/planispherelaw21.MatchMore", spec := "matchMore", unfollowed := true, recurses := true, named := ["math/bits.overflowError"], apart := false, narrowed := true }
def MatchMoreUptoSaid : Prop := matchMoreUptoRow.holds Tryz.pinned (OpenSpec.upto matchMoreSpec)

/-- 'planispherelaw21.MatchPairs', WHERE WHAT IT READS IS OF BULK AT MOST 1048576: true; the input reads as it did. -/
def matchPairsUptoRow : OpenClaim := { program := "ytffmbepfbienaaagreat", sum := "b7bce0b56b2269f440f38ed1b70939f6d0f561c8d0a6108bcbae14d738a42446", func := "planisphere/planispherelaw21.MatchPairs", spec := "matchPairs", unfollowed := true, recurses := true, named := ["math/bits.overflowError"], apart := false, narrowed := true }
def MatchPairsUptoSaid : Prop := matchPairsUptoRow.holds Tryz.pinned (OpenSpec.upto matchPairsSpec)

/-- 'planispherelaw21.MatchNearest', WHERE WHAT IT READS IS OF BULK AT MOST 1048576: true; the input reads as it did. -/
def matchNearestUptoRow : OpenClaim := { program := "ytffmbepfbienaaagreat", sum := "b7bce0b56b2269f440f38ed1b70939f6d0f561c8d0a6108bcbae14d738a42446", func := "planisphere/planispherelaw21.MatchNearest", spec := "matchNearest", unfollowed := true, recurses := true, named := ["math/bits.overflowError"], apart := false, narrowed := true }
def MatchNearestUptoSaid : Prop := matchNearestUptoRow.holds Tryz.pinned (OpenSpec.upto matchNearestSpec)

/-- 'planispherelaw21.MatchSearches', WHERE WHAT IT READS IS OF BULK AT MOST 1048576: true; the input reads as it did. -/
def matchSearchesUptoRow : OpenClaim := { program := "ytffmbepfbienaaagreat", sum := "b7bce0b56b2269f440f38ed1b70939f6d0f561c8d0a6108bcbae14d738a42446", func := "planisphere/planispherelaw21.MatchSearches", spec := "matchSearches", unfollowed := true, recurses := true, named := ["math/bits.overflowError"], apart := false, narrowed := true }
def MatchSearchesUptoSaid : Prop := matchSearchesUptoRow.holds Tryz.pinned (OpenSpec.upto matchSearchesSpec)

/-- 'planispherelaw21.MatchSound', WHERE WHAT IT READS IS OF BULK AT MOST 1048576: true; the input reads as it did. -/
def matchSoundUptoRow : OpenClaim := { program := "ytffmbepfbienaaagreat", sum := "b7bce0b56b2269f440f38ed1b70939f6d0f561c8d0a6108bcbae14d738a42446", func := "planisphere/planispherelaw21.MatchSound", spec := "matchSound", unfollowed := true, recurses := true, named := ["math/bits.overflowError"], apart := false, narrowed := true }
def MatchSoundUptoSaid : Prop := matchSoundUptoRow.holds Tryz.pinned (OpenSpec.upto matchSoundSpec)

/-- 'planispherelaw21.MatchNames', WHERE WHAT IT READS IS OF BULK AT MOST 1048576: true; the input reads as it did. -/
def matchNamesUptoRow : OpenClaim := { program := "ytffmbepfbienaaagreat", sum := "b7bce0b56b2269f440f38ed1b70939f6d0f561c8d0a6108bcbae14d738a42446", func := "planisphere/planispherelaw21.MatchNames", spec := "matchNames", unfollowed := true, recurses := true, named := ["math/bits.overflowError"], apart := false, narrowed := true }
def MatchNamesUptoSaid : Prop := matchNamesUptoRow.holds Tryz.pinned (OpenSpec.upto matchNamesSpec)

end Rows
end Go.Proofs.YtffmbepfbienaaaGreat
