/-
  No cell of these rows narrows 'for every input' (looked for: loops, veiled, ifaces, maps, wideKeys, modest, calm, conditions, laid).
  DERIVED. THE GIVEN ROWS OF THIS SEAT. 9 by the template 'for every input the law returns true; each argument reads behind the call as it read before'; 0 by the template 'total and deterministic' (their statements: YtobgcfncnfepfaaTotals.lean).
  GIVEN WITH THE SEED: the statements are not yours to turn. If you find one false, say at which input.
  Laid BY PROGRAM, IN A SANDBOX (cutbox-rows.mjs): the forced cells as the released guide's own fill.sh prints them over the translation 6038993dca02777a… (all of the seat's roots in one cut). By AI agents, Wed Nov 11 2026. No macro, syntax, notation, axiom, sorry.
-/
import Derived.Test.YtobgcfncnfepfaaChecked
import GoSem.Claim
import GoSem.ClaimJoined
import GoSem.ClaimMapViews
import Derived.JoinedTies
import Derived.KernelRfl
namespace Go.Proofs.Ytobgcfncnfepfaa
/- THE CELL 'sum', in the pinned program and in every row, IS THE sha256 OF THE DUMP (.gsa) THAT YtobgcfncnfepfaaProg.lean LOADS. Nothing in Lean hashes anything: it is a label: what it is worth is what the hold of that sum in a sandbox is worth. -/
noncomputable def Try.pinned : Pinned := { name := "ytobgcfncnfepfaa", sum := "6038993dca02777acbc26a1b81ac2c9ffe8cb160af93411075f0c8cba8e4a6c6", checked := Try.checked }
namespace Rows
def none {H : Type} : Left H := { results := [], args := [] }

/-- 'garmentlaw15.OverlapResults': WHATEVER THE INPUT: true; the input reads as it did. -/
def overlapResultsSpec : ChangeSpec := { name := "overlapResults", fn := fun _ => fun
  | [d1, d2] => { results := [.lit (.bool true)], args := [d1, d2] }
  | _ => none }
def overlapResultsRow : OpenClaim := { program := "ytobgcfncnfepfaa", sum := "6038993dca02777acbc26a1b81ac2c9ffe8cb160af93411075f0c8cba8e4a6c6", func := "garment/garmentlaw15.OverlapResults", spec := "overlapResults", unfollowed := true, recurses := true, apart := false }
def OverlapResultsSaid : Prop := overlapResultsRow.holds Try.pinned (OpenSpec.ofChange overlapResultsSpec)

/-- ITS FALSE NEIGHBOUR: 'it returns false'. Refute it at one input. -/
def overlapResultsWrong : ChangeSpec := { name := "overlapResults", fn := fun _ => fun
  | [d1, d2] => { results := [.lit (.bool false)], args := [d1, d2] }
  | _ => none }
def OverlapResultsWrongFalsely : Prop := overlapResultsRow.holds Try.pinned (OpenSpec.ofChange overlapResultsWrong)

/-- 'garmentlaw15.OverlapCrosses': WHATEVER THE INPUT: true; the input reads as it did. -/
def overlapCrossesSpec : ChangeSpec := { name := "overlapCrosses", fn := fun _ => fun
  | [d1, d2] => { results := [.lit (.bool true)], args := [d1, d2] }
  | _ => none }
def overlapCrossesRow : OpenClaim := { program := "ytobgcfncnfepfaa", sum := "6038993dca02777acbc26a1b81ac2c9ffe8cb160af93411075f0c8cba8e4a6c6", func := "garment/garmentlaw15.OverlapCrosses", spec := "overlapCrosses", unfollowed := true, recurses := true, apart := false }
def OverlapCrossesSaid : Prop := overlapCrossesRow.holds Try.pinned (OpenSpec.ofChange overlapCrossesSpec)

/-- ITS FALSE NEIGHBOUR: 'it returns false'. Refute it at one input. -/
def overlapCrossesWrong : ChangeSpec := { name := "overlapCrosses", fn := fun _ => fun
  | [d1, d2] => { results := [.lit (.bool false)], args := [d1, d2] }
  | _ => none }
def OverlapCrossesWrongFalsely : Prop := overlapCrossesRow.holds Try.pinned (OpenSpec.ofChange overlapCrossesWrong)

/-- 'garmentlaw15.OverlapSymmetry': WHATEVER THE INPUT: true; the input reads as it did. -/
def overlapSymmetrySpec : ChangeSpec := { name := "overlapSymmetry", fn := fun _ => fun
  | [d1, d2] => { results := [.lit (.bool true)], args := [d1, d2] }
  | _ => none }
def overlapSymmetryRow : OpenClaim := { program := "ytobgcfncnfepfaa", sum := "6038993dca02777acbc26a1b81ac2c9ffe8cb160af93411075f0c8cba8e4a6c6", func := "garment/garmentlaw15.OverlapSymmetry", spec := "overlapSymmetry", unfollowed := true, recurses := true, apart := false }
def OverlapSymmetrySaid : Prop := overlapSymmetryRow.holds Try.pinned (OpenSpec.ofChange overlapSymmetrySpec)

/-- ITS FALSE NEIGHBOUR: 'it returns false'. Refute it at one input. -/
def overlapSymmetryWrong : ChangeSpec := { name := "overlapSymmetry", fn := fun _ => fun
  | [d1, d2] => { results := [.lit (.bool false)], args := [d1, d2] }
  | _ => none }
def OverlapSymmetryWrongFalsely : Prop := overlapSymmetryRow.holds Try.pinned (OpenSpec.ofChange overlapSymmetryWrong)

/-- 'garmentlaw15.OverlapBoxes': WHATEVER THE INPUT: true; the input reads as it did. -/
def overlapBoxesSpec : ChangeSpec := { name := "overlapBoxes", fn := fun _ => fun
  | [d1, d2] => { results := [.lit (.bool true)], args := [d1, d2] }
  | _ => none }
def overlapBoxesRow : OpenClaim := { program := "ytobgcfncnfepfaa", sum := "6038993dca02777acbc26a1b81ac2c9ffe8cb160af93411075f0c8cba8e4a6c6", func := "garment/garmentlaw15.OverlapBoxes", spec := "overlapBoxes", unfollowed := true, recurses := true, apart := false }
def OverlapBoxesSaid : Prop := overlapBoxesRow.holds Try.pinned (OpenSpec.ofChange overlapBoxesSpec)

/-- ITS FALSE NEIGHBOUR: 'it returns false'. Refute it at one input. -/
def overlapBoxesWrong : ChangeSpec := { name := "overlapBoxes", fn := fun _ => fun
  | [d1, d2] => { results := [.lit (.bool false)], args := [d1, d2] }
  | _ => none }
def OverlapBoxesWrongFalsely : Prop := overlapBoxesRow.holds Try.pinned (OpenSpec.ofChange overlapBoxesWrong)

/-- 'garmentlaw15.OverlapRects': WHATEVER THE INPUT: true; the input reads as it did. -/
def overlapRectsSpec : ChangeSpec := { name := "overlapRects", fn := fun _ => fun
  | [d1, d2, d3] => { results := [.lit (.bool true)], args := [d1, d2, d3] }
  | _ => none }
def overlapRectsRow : OpenClaim := { program := "ytobgcfncnfepfaa", sum := "6038993dca02777acbc26a1b81ac2c9ffe8cb160af93411075f0c8cba8e4a6c6", func := "garment/garmentlaw15.OverlapRects", spec := "overlapRects", unfollowed := true, recurses := true, apart := false }
def OverlapRectsSaid : Prop := overlapRectsRow.holds Try.pinned (OpenSpec.ofChange overlapRectsSpec)

/-- ITS FALSE NEIGHBOUR: 'it returns false'. Refute it at one input. -/
def overlapRectsWrong : ChangeSpec := { name := "overlapRects", fn := fun _ => fun
  | [d1, d2, d3] => { results := [.lit (.bool false)], args := [d1, d2, d3] }
  | _ => none }
def OverlapRectsWrongFalsely : Prop := overlapRectsRow.holds Try.pinned (OpenSpec.ofChange overlapRectsWrong)

/-- 'garmentlaw15.OverlapTriangles': WHATEVER THE INPUT: true; the input reads as it did. -/
def overlapTrianglesSpec : ChangeSpec := { name := "overlapTriangles", fn := fun _ => fun
  | [d1, d2] => { results := [.lit (.bool true)], args := [d1, d2] }
  | _ => none }
def overlapTrianglesRow : OpenClaim := { program := "ytobgcfncnfepfaa", sum := "6038993dca02777acbc26a1b81ac2c9ffe8cb160af93411075f0c8cba8e4a6c6", func := "garment/garmentlaw15.OverlapTriangles", spec := "overlapTriangles", unfollowed := true, recurses := true, apart := false }
def OverlapTrianglesSaid : Prop := overlapTrianglesRow.holds Try.pinned (OpenSpec.ofChange overlapTrianglesSpec)

/-- ITS FALSE NEIGHBOUR: 'it returns false'. Refute it at one input. -/
def overlapTrianglesWrong : ChangeSpec := { name := "overlapTriangles", fn := fun _ => fun
  | [d1, d2] => { results := [.lit (.bool false)], args := [d1, d2] }
  | _ => none }
def OverlapTrianglesWrongFalsely : Prop := overlapTrianglesRow.holds Try.pinned (OpenSpec.ofChange overlapTrianglesWrong)

/-- 'garmentlaw15.OverlapCuts': WHATEVER THE INPUT: true; the input reads as it did. -/
def overlapCutsSpec : ChangeSpec := { name := "overlapCuts", fn := fun _ => fun
  | [d1, d2] => { results := [.lit (.bool true)], args := [d1, d2] }
  | _ => none }
def overlapCutsRow : OpenClaim := { program := "ytobgcfncnfepfaa", sum := "6038993dca02777acbc26a1b81ac2c9ffe8cb160af93411075f0c8cba8e4a6c6", func := "garment/garmentlaw15.OverlapCuts", spec := "overlapCuts", unfollowed := true, recurses := true, apart := false }
def OverlapCutsSaid : Prop := overlapCutsRow.holds Try.pinned (OpenSpec.ofChange overlapCutsSpec)

/-- ITS FALSE NEIGHBOUR: 'it returns false'. Refute it at one input. -/
def overlapCutsWrong : ChangeSpec := { name := "overlapCuts", fn := fun _ => fun
  | [d1, d2] => { results := [.lit (.bool false)], args := [d1, d2] }
  | _ => none }
def OverlapCutsWrongFalsely : Prop := overlapCutsRow.holds Try.pinned (OpenSpec.ofChange overlapCutsWrong)

/-- 'garmentlaw15.OverlapPoints': WHATEVER THE INPUT: true; the input reads as it did. -/
def overlapPointsSpec : ChangeSpec := { name := "overlapPoints", fn := fun _ => fun
  | [d1, d2, d3] => { results := [.lit (.bool true)], args := [d1, d2, d3] }
  | _ => none }
def overlapPointsRow : OpenClaim := { program := "ytobgcfncnfepfaa", sum := "6038993dca02777acbc26a1b81ac2c9ffe8cb160af93411075f0c8cba8e4a6c6", func := "garment/garmentlaw15.OverlapPoints", spec := "overlapPoints", unfollowed := true, recurses := true, apart := false }
def OverlapPointsSaid : Prop := overlapPointsRow.holds Try.pinned (OpenSpec.ofChange overlapPointsSpec)

/-- ITS FALSE NEIGHBOUR: 'it returns false'. Refute it at one input. -/
def overlapPointsWrong : ChangeSpec := { name := "overlapPoints", fn := fun _ => fun
  | [d1, d2, d3] => { results := [.lit (.bool false)], args := [d1, d2, d3] }
  | _ => none }
def OverlapPointsWrongFalsely : Prop := overlapPointsRow.holds Try.pinned (OpenSpec.ofChange overlapPointsWrong)

/-- 'garmentlaw15.OverlapMoves': WHATEVER THE INPUT: true; the input reads as it did. -/
def overlapMovesSpec : ChangeSpec := { name := "overlapMoves", fn := fun _ => fun
  | [d1, d2, d3, d4] => { results := [.lit (.bool true)], args := [d1, d2, d3, d4] }
  | _ => none }
def overlapMovesRow : OpenClaim := { program := "ytobgcfncnfepfaa", sum := "6038993dca02777acbc26a1b81ac2c9ffe8cb160af93411075f0c8cba8e4a6c6", func := "garment/garmentlaw15.OverlapMoves", spec := "overlapMoves", unfollowed := true, recurses := true, apart := false }
def OverlapMovesSaid : Prop := overlapMovesRow.holds Try.pinned (OpenSpec.ofChange overlapMovesSpec)

/-- ITS FALSE NEIGHBOUR: 'it returns false'. Refute it at one input. -/
def overlapMovesWrong : ChangeSpec := { name := "overlapMoves", fn := fun _ => fun
  | [d1, d2, d3, d4] => { results := [.lit (.bool false)], args := [d1, d2, d3, d4] }
  | _ => none }
def OverlapMovesWrongFalsely : Prop := overlapMovesRow.holds Try.pinned (OpenSpec.ofChange overlapMovesWrong)

/- THE SECOND FORM. 'bulk': how many values and letters a reading holds, each counted each time it is reached (what is shared counts as often as it is met; a slice's spare places count too). A statement '..UptoSaid' is the law's where the arguments, and the package variables that the reading takes, are together of bulk at most 1048576: NARROWER than '..Said'. Prove '..Said' where nothing that the law and all that it calls make is longer than what came in: it says more and counts as full. Else prove '..UptoSaid'. A law counts once. -/
mutual
def uptoBulk {H : Type} : DataW H → Nat
  | .lit (.string bytes) => bytes.length + 1
  | .lit _ => 1
  | .nil => 1
  | .ptr d => uptoBulk d + 1
  | .slice elems spare => uptoBulkAll elems + uptoBulkAll spare + 1
  | .agg parts => uptoBulkAll parts + 1
  | .iface _ d => uptoBulk d + 1
  | .map entries => uptoBulkEntries entries + 1
  | .held _ => 1
def uptoBulkAll {H : Type} : List (DataW H) → Nat
  | [] => 0
  | d :: r => uptoBulk d + uptoBulkAll r
def uptoBulkEntries {H : Type} : List (Lit × DataW H) → Nat
  | [] => 0
  | x :: r => uptoBulkEntry x + uptoBulkEntries r
def uptoBulkEntry {H : Type} : Lit × DataW H → Nat
  | (.string bytes, d) => bytes.length + uptoBulk d + 1
  | (_, d) => uptoBulk d + 1
 end
def uptoSmall : (H : Type) → List (DataW H) → Bool := fun _ ds => decide (uptoBulkAll ds ≤ 1048576)
def OpenSpec.upto (s : _root_.Go.ChangeSpec) : _root_.Go.OpenSpec := { _root_.Go.OpenSpec.ofChange s with cond := some uptoSmall }

/-- 'garmentlaw15.OverlapResults', WHERE WHAT IT READS IS OF BULK AT MOST 1048576: true; the input reads as it did. -/
def overlapResultsUptoRow : OpenClaim := { program := "ytobgcfncnfepfaa", sum := "6038993dca02777acbc26a1b81ac2c9ffe8cb160af93411075f0c8cba8e4a6c6", func := "garment/garmentlaw15.OverlapResults", spec := "overlapResults", unfollowed := true, recurses := true, apart := false, narrowed := true }
def OverlapResultsUptoSaid : Prop := overlapResultsUptoRow.holds Try.pinned (OpenSpec.upto overlapResultsSpec)

/-- 'garmentlaw15.OverlapCrosses', WHERE WHAT IT READS IS OF BULK AT MOST 1048576: true; the input reads as it did. -/
def overlapCrossesUptoRow : OpenClaim := { program := "ytobgcfncnfepfaa", sum := "6038993dca02777acbc26a1b81ac2c9ffe8cb160af93411075f0c8cba8e4a6c6", func := "garment/garmentlaw15.OverlapCrosses", spec := "overlapCrosses", unfollowed := true, recurses := true, apart := false, narrowed := true }
def OverlapCrossesUptoSaid : Prop := overlapCrossesUptoRow.holds Try.pinned (OpenSpec.upto overlapCrossesSpec)

/-- 'garmentlaw15.OverlapSymmetry', WHERE WHAT IT READS IS OF BULK AT MOST 1048576: true; the input reads as it did. -/
def overlapSymmetryUptoRow : OpenClaim := { program := "ytobgcfncnfepfaa", sum := "6038993dca02777acbc26a1b81ac2c9ffe8cb160af93411075f0c8cba8e4a6c6", func := "garment/garmentlaw15.OverlapSymmetry", spec := "overlapSymmetry", unfollowed := true, recurses := true, apart := false, narrowed := true }
def OverlapSymmetryUptoSaid : Prop := overlapSymmetryUptoRow.holds Try.pinned (OpenSpec.upto overlapSymmetrySpec)

/-- 'garmentlaw15.OverlapBoxes', WHERE WHAT IT READS IS OF BULK AT MOST 1048576: true; the input reads as it did. -/
def overlapBoxesUptoRow : OpenClaim := { program := "ytobgcfncnfepfaa", sum := "6038993dca02777acbc26a1b81ac2c9ffe8cb160af93411075f0c8cba8e4a6c6", func := "garment/garmentlaw15.OverlapBoxes", spec := "overlapBoxes", unfollowed := true, recurses := true, apart := false, narrowed := true }
def OverlapBoxesUptoSaid : Prop := overlapBoxesUptoRow.holds Try.pinned (OpenSpec.upto overlapBoxesSpec)

/-- 'garmentlaw15.OverlapRects', WHERE WHAT IT READS IS OF BULK AT MOST 1048576: true; the input reads as it did. -/
def overlapRectsUptoRow : OpenClaim := { program := "ytobgcfncnfepfaa", sum := "6038993dca02777acbc26a1b81ac2c9ffe8cb160af93411075f0c8cba8e4a6c6", func := "garment/garmentlaw15.OverlapRects", spec := "overlapRects", unfollowed := true, recurses := true, apart := false, narrowed := true }
def OverlapRectsUptoSaid : Prop := overlapRectsUptoRow.holds Try.pinned (OpenSpec.upto overlapRectsSpec)

/-- 'garmentlaw15.OverlapTriangles', WHERE WHAT IT READS IS OF BULK AT MOST 1048576: true; the input reads as it did. -/
def overlapTrianglesUptoRow : OpenClaim := { program := "ytobgcfncnfepfaa", sum := "6038993dca02777acbc26a1b81ac2c9ffe8cb160af93411075f0c8cba8e4a6c6", func := "garment/garmentlaw15.OverlapTriangles", spec := "overlapTriangles", unfollowed := true, recurses := true, apart := false, narrowed := true }
def OverlapTrianglesUptoSaid : Prop := overlapTrianglesUptoRow.holds Try.pinned (OpenSpec.upto overlapTrianglesSpec)

/-- 'garmentlaw15.OverlapCuts', WHERE WHAT IT READS IS OF BULK AT MOST 1048576: true; the input reads as it did. -/
def overlapCutsUptoRow : OpenClaim := { program := "ytobgcfncnfepfaa", sum := "6038993dca02777acbc26a1b81ac2c9ffe8cb160af93411075f0c8cba8e4a6c6", func := "garment/garmentlaw15.OverlapCuts", spec := "overlapCuts", unfollowed := true, recurses := true, apart := false, narrowed := true }
def OverlapCutsUptoSaid : Prop := overlapCutsUptoRow.holds Try.pinned (OpenSpec.upto overlapCutsSpec)

/-- 'garmentlaw15.OverlapPoints', WHERE WHAT IT READS IS OF BULK AT MOST 1048576: true; the input reads as it did. -/
def overlapPointsUptoRow : OpenClaim := { program := "ytobgcfncnfepfaa", sum := "6038993dca02777acbc26a1b81ac2c9ffe8cb160af93411075f0c8cba8e4a6c6", func := "garment/garmentlaw15.OverlapPoints", spec := "overlapPoints", unfollowed := true, recurses := true, apart := false, narrowed := true }
def OverlapPointsUptoSaid : Prop := overlapPointsUptoRow.holds Try.pinned (OpenSpec.upto overlapPointsSpec)

/-- 'garmentlaw15.OverlapMoves', WHERE WHAT IT READS IS OF BULK AT MOST 1048576: true; the input reads as it did. -/
def overlapMovesUptoRow : OpenClaim := { program := "ytobgcfncnfepfaa", sum := "6038993dca02777acbc26a1b81ac2c9ffe8cb160af93411075f0c8cba8e4a6c6", func := "garment/garmentlaw15.OverlapMoves", spec := "overlapMoves", unfollowed := true, recurses := true, apart := false, narrowed := true }
def OverlapMovesUptoSaid : Prop := overlapMovesUptoRow.holds Try.pinned (OpenSpec.upto overlapMovesSpec)

end Rows
end Go.Proofs.Ytobgcfncnfepfaa
