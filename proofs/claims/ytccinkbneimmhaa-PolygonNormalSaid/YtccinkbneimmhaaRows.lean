/-
  No cell of these rows narrows 'for every input' (looked for: loops, veiled, ifaces, maps, wideKeys, modest, calm, conditions, laid).
  DERIVED. THE GIVEN ROWS OF THIS SEAT. 9 by the template 'for every input the law returns true; each argument reads behind the call as it read before'; 0 by the template 'total and deterministic' (their statements: YtccinkbneimmhaaTotals.lean).
  GIVEN WITH THE SEED: the statements are not yours to turn. If you find one false, say at which input.
  Laid BY PROGRAM, IN A SANDBOX (cutbox-rows.mjs): the forced cells as the released guide's own fill.sh prints them over the translation 7d5c11a5184cd4b8… (all of the seat's roots in one cut). By AI agents, Wed Nov 11 2026. No macro, syntax, notation, axiom, sorry.
-/
import Derived.Test.YtccinkbneimmhaaChecked
import GoSem.Claim
import GoSem.ClaimJoined
import GoSem.ClaimMapViews
import Derived.JoinedTies
import Derived.KernelRfl
namespace Go.Proofs.Ytccinkbneimmhaa
/- THE CELL 'sum', in the pinned program and in every row, IS THE sha256 OF THE DUMP (.gsa) THAT YtccinkbneimmhaaProg.lean LOADS. Nothing in Lean hashes anything: it is a label: what it is worth is what the hold of that sum in a sandbox is worth. -/
noncomputable def Try.pinned : Pinned := { name := "ytccinkbneimmhaa", sum := "7d5c11a5184cd4b8869f8bf4b92961400f6a08ed67753cf7b93e569f49c2fbb1", checked := Try.checked }
namespace Rows
def none {H : Type} : Left H := { results := [], args := [] }

/-- 'garmentlaw11.PolygonNormals': WHATEVER THE INPUT: true; the input reads as it did. -/
def polygonNormalsSpec : ChangeSpec := { name := "polygonNormals", fn := fun _ => fun
  | [d] => { results := [.lit (.bool true)], args := [d] }
  | _ => none }
def polygonNormalsRow : OpenClaim := { program := "ytccinkbneimmhaa", sum := "7d5c11a5184cd4b8869f8bf4b92961400f6a08ed67753cf7b93e569f49c2fbb1", func := "garment/garmentlaw11.PolygonNormals", spec := "polygonNormals", unfollowed := true, recurses := true, apart := false }
def PolygonNormalsSaid : Prop := polygonNormalsRow.holds Try.pinned (OpenSpec.ofChange polygonNormalsSpec)

/-- ITS FALSE NEIGHBOUR: 'it returns false'. Refute it at one input. -/
def polygonNormalsWrong : ChangeSpec := { name := "polygonNormals", fn := fun _ => fun
  | [d] => { results := [.lit (.bool false)], args := [d] }
  | _ => none }
def PolygonNormalsWrongFalsely : Prop := polygonNormalsRow.holds Try.pinned (OpenSpec.ofChange polygonNormalsWrong)

/-- 'garmentlaw11.PolygonWheres': WHATEVER THE INPUT: true; the input reads as it did. -/
def polygonWheresSpec : ChangeSpec := { name := "polygonWheres", fn := fun _ => fun
  | [d1, d2] => { results := [.lit (.bool true)], args := [d1, d2] }
  | _ => none }
def polygonWheresRow : OpenClaim := { program := "ytccinkbneimmhaa", sum := "7d5c11a5184cd4b8869f8bf4b92961400f6a08ed67753cf7b93e569f49c2fbb1", func := "garment/garmentlaw11.PolygonWheres", spec := "polygonWheres", unfollowed := true, recurses := true, apart := false }
def PolygonWheresSaid : Prop := polygonWheresRow.holds Try.pinned (OpenSpec.ofChange polygonWheresSpec)

/-- ITS FALSE NEIGHBOUR: 'it returns false'. Refute it at one input. -/
def polygonWheresWrong : ChangeSpec := { name := "polygonWheres", fn := fun _ => fun
  | [d1, d2] => { results := [.lit (.bool false)], args := [d1, d2] }
  | _ => none }
def PolygonWheresWrongFalsely : Prop := polygonWheresRow.holds Try.pinned (OpenSpec.ofChange polygonWheresWrong)

/-- 'garmentlaw11.PolygonNormal': WHATEVER THE INPUT: true; the input reads as it did. -/
def polygonNormalSpec : ChangeSpec := { name := "polygonNormal", fn := fun _ => fun
  | [d1, d2, d3] => { results := [.lit (.bool true)], args := [d1, d2, d3] }
  | _ => none }
def polygonNormalRow : OpenClaim := { program := "ytccinkbneimmhaa", sum := "7d5c11a5184cd4b8869f8bf4b92961400f6a08ed67753cf7b93e569f49c2fbb1", func := "garment/garmentlaw11.PolygonNormal", spec := "polygonNormal", unfollowed := true, recurses := true, apart := false }
def PolygonNormalSaid : Prop := polygonNormalRow.holds Try.pinned (OpenSpec.ofChange polygonNormalSpec)

/-- ITS FALSE NEIGHBOUR: 'it returns false'. Refute it at one input. -/
def polygonNormalWrong : ChangeSpec := { name := "polygonNormal", fn := fun _ => fun
  | [d1, d2, d3] => { results := [.lit (.bool false)], args := [d1, d2, d3] }
  | _ => none }
def PolygonNormalWrongFalsely : Prop := polygonNormalRow.holds Try.pinned (OpenSpec.ofChange polygonNormalWrong)

/-- 'garmentlaw11.PolygonPick': WHATEVER THE INPUT: true; the input reads as it did. -/
def polygonPickSpec : ChangeSpec := { name := "polygonPick", fn := fun _ => fun
  | [d] => { results := [.lit (.bool true)], args := [d] }
  | _ => none }
def polygonPickRow : OpenClaim := { program := "ytccinkbneimmhaa", sum := "7d5c11a5184cd4b8869f8bf4b92961400f6a08ed67753cf7b93e569f49c2fbb1", func := "garment/garmentlaw11.PolygonPick", spec := "polygonPick", unfollowed := true, recurses := true, apart := false }
def PolygonPickSaid : Prop := polygonPickRow.holds Try.pinned (OpenSpec.ofChange polygonPickSpec)

/-- ITS FALSE NEIGHBOUR: 'it returns false'. Refute it at one input. -/
def polygonPickWrong : ChangeSpec := { name := "polygonPick", fn := fun _ => fun
  | [d] => { results := [.lit (.bool false)], args := [d] }
  | _ => none }
def PolygonPickWrongFalsely : Prop := polygonPickRow.holds Try.pinned (OpenSpec.ofChange polygonPickWrong)

/-- 'garmentlaw11.PolygonCorners': WHATEVER THE INPUT: true; the input reads as it did. -/
def polygonCornersSpec : ChangeSpec := { name := "polygonCorners", fn := fun _ => fun
  | [d1, d2] => { results := [.lit (.bool true)], args := [d1, d2] }
  | _ => none }
def polygonCornersRow : OpenClaim := { program := "ytccinkbneimmhaa", sum := "7d5c11a5184cd4b8869f8bf4b92961400f6a08ed67753cf7b93e569f49c2fbb1", func := "garment/garmentlaw11.PolygonCorners", spec := "polygonCorners", unfollowed := true, recurses := true, apart := false }
def PolygonCornersSaid : Prop := polygonCornersRow.holds Try.pinned (OpenSpec.ofChange polygonCornersSpec)

/-- ITS FALSE NEIGHBOUR: 'it returns false'. Refute it at one input. -/
def polygonCornersWrong : ChangeSpec := { name := "polygonCorners", fn := fun _ => fun
  | [d1, d2] => { results := [.lit (.bool false)], args := [d1, d2] }
  | _ => none }
def PolygonCornersWrongFalsely : Prop := polygonCornersRow.holds Try.pinned (OpenSpec.ofChange polygonCornersWrong)

/-- 'garmentlaw11.PolygonConvexity': WHATEVER THE INPUT: true; the input reads as it did. -/
def polygonConvexitySpec : ChangeSpec := { name := "polygonConvexity", fn := fun _ => fun
  | [d1, d2] => { results := [.lit (.bool true)], args := [d1, d2] }
  | _ => none }
def polygonConvexityRow : OpenClaim := { program := "ytccinkbneimmhaa", sum := "7d5c11a5184cd4b8869f8bf4b92961400f6a08ed67753cf7b93e569f49c2fbb1", func := "garment/garmentlaw11.PolygonConvexity", spec := "polygonConvexity", unfollowed := true, recurses := true, apart := false }
def PolygonConvexitySaid : Prop := polygonConvexityRow.holds Try.pinned (OpenSpec.ofChange polygonConvexitySpec)

/-- ITS FALSE NEIGHBOUR: 'it returns false'. Refute it at one input. -/
def polygonConvexityWrong : ChangeSpec := { name := "polygonConvexity", fn := fun _ => fun
  | [d1, d2] => { results := [.lit (.bool false)], args := [d1, d2] }
  | _ => none }
def PolygonConvexityWrongFalsely : Prop := polygonConvexityRow.holds Try.pinned (OpenSpec.ofChange polygonConvexityWrong)

/-- 'garmentlaw11.PolygonReverse': WHATEVER THE INPUT: true; the input reads as it did. -/
def polygonReverseSpec : ChangeSpec := { name := "polygonReverse", fn := fun _ => fun
  | [d1, d2] => { results := [.lit (.bool true)], args := [d1, d2] }
  | _ => none }
def polygonReverseRow : OpenClaim := { program := "ytccinkbneimmhaa", sum := "7d5c11a5184cd4b8869f8bf4b92961400f6a08ed67753cf7b93e569f49c2fbb1", func := "garment/garmentlaw11.PolygonReverse", spec := "polygonReverse", unfollowed := true, recurses := true, apart := false }
def PolygonReverseSaid : Prop := polygonReverseRow.holds Try.pinned (OpenSpec.ofChange polygonReverseSpec)

/-- ITS FALSE NEIGHBOUR: 'it returns false'. Refute it at one input. -/
def polygonReverseWrong : ChangeSpec := { name := "polygonReverse", fn := fun _ => fun
  | [d1, d2] => { results := [.lit (.bool false)], args := [d1, d2] }
  | _ => none }
def PolygonReverseWrongFalsely : Prop := polygonReverseRow.holds Try.pinned (OpenSpec.ofChange polygonReverseWrong)

/-- 'garmentlaw11.PolygonChecks': WHATEVER THE INPUT: true; the input reads as it did. -/
def polygonChecksSpec : ChangeSpec := { name := "polygonChecks", fn := fun _ => fun
  | [d1, d2] => { results := [.lit (.bool true)], args := [d1, d2] }
  | _ => none }
def polygonChecksRow : OpenClaim := { program := "ytccinkbneimmhaa", sum := "7d5c11a5184cd4b8869f8bf4b92961400f6a08ed67753cf7b93e569f49c2fbb1", func := "garment/garmentlaw11.PolygonChecks", spec := "polygonChecks", unfollowed := true, recurses := true, apart := false }
def PolygonChecksSaid : Prop := polygonChecksRow.holds Try.pinned (OpenSpec.ofChange polygonChecksSpec)

/-- ITS FALSE NEIGHBOUR: 'it returns false'. Refute it at one input. -/
def polygonChecksWrong : ChangeSpec := { name := "polygonChecks", fn := fun _ => fun
  | [d1, d2] => { results := [.lit (.bool false)], args := [d1, d2] }
  | _ => none }
def PolygonChecksWrongFalsely : Prop := polygonChecksRow.holds Try.pinned (OpenSpec.ofChange polygonChecksWrong)

/-- 'garmentlaw11.PolygonMoves': WHATEVER THE INPUT: true; the input reads as it did. -/
def polygonMovesSpec : ChangeSpec := { name := "polygonMoves", fn := fun _ => fun
  | [d1, d2, d3] => { results := [.lit (.bool true)], args := [d1, d2, d3] }
  | _ => none }
def polygonMovesRow : OpenClaim := { program := "ytccinkbneimmhaa", sum := "7d5c11a5184cd4b8869f8bf4b92961400f6a08ed67753cf7b93e569f49c2fbb1", func := "garment/garmentlaw11.PolygonMoves", spec := "polygonMoves", unfollowed := true, recurses := true, apart := false }
def PolygonMovesSaid : Prop := polygonMovesRow.holds Try.pinned (OpenSpec.ofChange polygonMovesSpec)

/-- ITS FALSE NEIGHBOUR: 'it returns false'. Refute it at one input. -/
def polygonMovesWrong : ChangeSpec := { name := "polygonMoves", fn := fun _ => fun
  | [d1, d2, d3] => { results := [.lit (.bool false)], args := [d1, d2, d3] }
  | _ => none }
def PolygonMovesWrongFalsely : Prop := polygonMovesRow.holds Try.pinned (OpenSpec.ofChange polygonMovesWrong)

/- THE SECOND FORM. 'bulk': how many values and letters a reading holds, each counted each time it is reached (what is shared counts as often as it is met; a slice's spare places count too). A statement '..UptoSaid' is the law's where the arguments, and the package variables that the reading takes, are together of bulk at most 1048576: NARROWER than '..Said'. Prove '..Said' where nothing that the law and all that it calls make is longer than what came in: it says more and counts as full. Else prove '..UptoSaid'. A law counts once. -/
mutual
def uptoBulk {H : Type} : DataW H → Nat
  | .lit (.string bytes) => bytes.length + 1
  | .lit _ => 1
  | .nil => 1
  | .ptr d => uptoBulk d + 1
  | .slice elems spare => uptoBulkAll elems + uptoBulkAll spare + 1
  | .agg parts => uptoBulkAll parts + 1
  | .iface _ d => uptoBulk d + 1
  | .map entries => uptoBulkEntries entries + 1
  | .held _ => 1
def uptoBulkAll {H : Type} : List (DataW H) → Nat
  | [] => 0
  | d :: r => uptoBulk d + uptoBulkAll r
def uptoBulkEntries {H : Type} : List (Lit × DataW H) → Nat
  | [] => 0
  | x :: r => uptoBulkEntry x + uptoBulkEntries r
def uptoBulkEntry {H : Type} : Lit × DataW H → Nat
  | (.string bytes, d) => bytes.length + uptoBulk d + 1
  | (_, d) => uptoBulk d + 1
 end
def uptoSmall : (H : Type) → List (DataW H) → Bool := fun _ ds => decide (uptoBulkAll ds ≤ 1048576)
def OpenSpec.upto (s : _root_.Go.ChangeSpec) : _root_.Go.OpenSpec := { _root_.Go.OpenSpec.ofChange s with cond := some uptoSmall }

/-- 'garmentlaw11.PolygonNormals', WHERE WHAT IT READS IS OF BULK AT MOST 1048576: true; the input reads as it did. -/
def polygonNormalsUptoRow : OpenClaim := { program := "ytccinkbneimmhaa", sum := "7d5c11a5184cd4b8869f8bf4b92961400f6a08ed67753cf7b93e569f49c2fbb1", func := "garment/garmentlaw11.PolygonNormals", spec := "polygonNormals", unfollowed := true, recurses := true, apart := false, narrowed := true }
def PolygonNormalsUptoSaid : Prop := polygonNormalsUptoRow.holds Try.pinned (OpenSpec.upto polygonNormalsSpec)

/-- 'garmentlaw11.PolygonWheres', WHERE WHAT IT READS IS OF BULK AT MOST 1048576: true; the input reads as it did. -/
def polygonWheresUptoRow : OpenClaim := { program := "ytccinkbneimmhaa", sum := "7d5c11a5184cd4b8869f8bf4b92961400f6a08ed67753cf7b93e569f49c2fbb1", func := "garment/garmentlaw11.PolygonWheres", spec := "polygonWheres", unfollowed := true, recurses := true, apart := false, narrowed := true }
def PolygonWheresUptoSaid : Prop := polygonWheresUptoRow.holds Try.pinned (OpenSpec.upto polygonWheresSpec)

/-- 'garmentlaw11.PolygonNormal', WHERE WHAT IT READS IS OF BULK AT MOST 1048576: true; the input reads as it did. -/
def polygonNormalUptoRow : OpenClaim := { program := "ytccinkbneimmhaa", sum := "7d5c11a5184cd4b8869f8bf4b92961400f6a08ed67753cf7b93e569f49c2fbb1", func := "garment/garmentlaw11.PolygonNormal", spec := "polygonNormal", unfollowed := true, recurses := true, apart := false, narrowed := true }
def PolygonNormalUptoSaid : Prop := polygonNormalUptoRow.holds Try.pinned (OpenSpec.upto polygonNormalSpec)

/-- 'garmentlaw11.PolygonPick', WHERE WHAT IT READS IS OF BULK AT MOST 1048576: true; the input reads as it did. -/
def polygonPickUptoRow : OpenClaim := { program := "ytccinkbneimmhaa", sum := "7d5c11a5184cd4b8869f8bf4b92961400f6a08ed67753cf7b93e569f49c2fbb1", func := "garment/garmentlaw11.PolygonPick", spec := "polygonPick", unfollowed := true, recurses := true, apart := false, narrowed := true }
def PolygonPickUptoSaid : Prop := polygonPickUptoRow.holds Try.pinned (OpenSpec.upto polygonPickSpec)

/-- 'garmentlaw11.PolygonCorners', WHERE WHAT IT READS IS OF BULK AT MOST 1048576: true; the input reads as it did. -/
def polygonCornersUptoRow : OpenClaim := { program := "ytccinkbneimmhaa", sum := "7d5c11a5184cd4b8869f8bf4b92961400f6a08ed67753cf7b93e569f49c2fbb1", func := "garment/garmentlaw11.PolygonCorners", spec := "polygonCorners", unfollowed := true, recurses := true, apart := false, narrowed := true }
def PolygonCornersUptoSaid : Prop := polygonCornersUptoRow.holds Try.pinned (OpenSpec.upto polygonCornersSpec)

/-- 'garmentlaw11.PolygonConvexity', WHERE WHAT IT READS IS OF BULK AT MOST 1048576: true; the input reads as it did. -/
def polygonConvexityUptoRow : OpenClaim := { program := "ytccinkbneimmhaa", sum := "7d5c11a5184cd4b8869f8bf4b92961400f6a08ed67753cf7b93e569f49c2fbb1", func := "garment/garmentlaw11.PolygonConvexity", spec := "polygonConvexity", unfollowed := true, recurses := true, apart := false, narrowed := true }
def PolygonConvexityUptoSaid : Prop := polygonConvexityUptoRow.holds Try.pinned (OpenSpec.upto polygonConvexitySpec)

/-- 'garmentlaw11.PolygonReverse', WHERE WHAT IT READS IS OF BULK AT MOST 1048576: true; the input reads as it did. -/
def polygonReverseUptoRow : OpenClaim := { program := "ytccinkbneimmhaa", sum := "7d5c11a5184cd4b8869f8bf4b92961400f6a08ed67753cf7b93e569f49c2fbb1", func := "garment/garmentlaw11.PolygonReverse", spec := "polygonReverse", unfollowed := true, recurses := true, apart := false, narrowed := true }
def PolygonReverseUptoSaid : Prop := polygonReverseUptoRow.holds Try.pinned (OpenSpec.upto polygonReverseSpec)

/-- 'garmentlaw11.PolygonChecks', WHERE WHAT IT READS IS OF BULK AT MOST 1048576: true; the input reads as it did. -/
def polygonChecksUptoRow : OpenClaim := { program := "ytccinkbneimmhaa", sum := "7d5c11a5184cd4b8869f8bf4b92961400f6a08ed67753cf7b93e569f49c2fbb1", func := "garment/garmentlaw11.PolygonChecks", spec := "polygonChecks", unfollowed := true, recurses := true, apart := false, narrowed := true }
def PolygonChecksUptoSaid : Prop := polygonChecksUptoRow.holds Try.pinned (OpenSpec.upto polygonChecksSpec)

/-- 'garmentlaw11.PolygonMoves', WHERE WHAT IT READS IS OF BULK AT MOST 1048576: true; the input reads as it did. -/
def polygonMovesUptoRow : OpenClaim := { program := "ytccinkbneimmhaa", sum := "7d5c11a5184cd4b8869f8bf4b92961400f6a08ed67753cf7b93e569f49c2fbb1", func := "garment/garmentlaw11.PolygonMoves", spec := "polygonMoves", unfollowed := true, recurses := true, apart := false, narrowed := true }
def PolygonMovesUptoSaid : Prop := polygonMovesUptoRow.holds Try.pinned (OpenSpec.upto polygonMovesSpec)

end Rows
end Go.Proofs.Ytccinkbneimmhaa
