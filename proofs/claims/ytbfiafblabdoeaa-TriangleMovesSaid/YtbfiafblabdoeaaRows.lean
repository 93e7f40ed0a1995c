/-
  No cell of these rows narrows 'for every input' (looked for: loops, veiled, ifaces, maps, wideKeys, modest, calm, conditions, laid).
  DERIVED. THE GIVEN ROWS OF THIS SEAT. 7 by the template 'for every input the law returns true; each argument reads behind the call as it read before'; 0 by the template 'total and deterministic' (their statements: YtbfiafblabdoeaaTotals.lean).
  GIVEN WITH THE SEED: the statements are not yours to turn. If you find one false, say at which input.
  Laid BY PROGRAM, IN A SANDBOX (cutbox-rows.mjs): the forced cells as the released guide's own fill.sh prints them over the translation 1f6c8920cec3f513… (all of the seat's roots in one cut). By AI agents, Wed Nov 11 2026. No macro, syntax, notation, axiom, sorry.
-/
import Derived.Test.YtbfiafblabdoeaaChecked
import GoSem.Claim
import GoSem.ClaimJoined
import GoSem.ClaimMapViews
import Derived.JoinedTies
import Derived.KernelRfl
namespace Go.Proofs.Ytbfiafblabdoeaa
/- THE CELL 'sum', in the pinned program and in every row, IS THE sha256 OF THE DUMP (.gsa) THAT YtbfiafblabdoeaaProg.lean LOADS. Nothing in Lean hashes anything: it is a label: what it is worth is what the hold of that sum in a sandbox is worth. -/
noncomputable def Try.pinned : Pinned := { name := "ytbfiafblabdoeaa", sum := "1f6c8920cec3f513513f16b8b093157c74c76f4a64278384d429c4dc22f8909e", checked := Try.checked }
namespace Rows
def none {H : Type} : Left H := { results := [], args := [] }

/-- 'garmentlaw13.TriangleHolds': WHATEVER THE INPUT: true; the input reads as it did. -/
def triangleHoldsSpec : ChangeSpec := { name := "triangleHolds", fn := fun _ => fun
  | [d1, d2] => { results := [.lit (.bool true)], args := [d1, d2] }
  | _ => none }
def triangleHoldsRow : OpenClaim := { program := "ytbfiafblabdoeaa", sum := "1f6c8920cec3f513513f16b8b093157c74c76f4a64278384d429c4dc22f8909e", func := "garment/garmentlaw13.TriangleHolds", spec := "triangleHolds", unfollowed := true, recurses := true, apart := false }
def TriangleHoldsSaid : Prop := triangleHoldsRow.holds Try.pinned (OpenSpec.ofChange triangleHoldsSpec)

/-- ITS FALSE NEIGHBOUR: 'it returns false'. Refute it at one input. -/
def triangleHoldsWrong : ChangeSpec := { name := "triangleHolds", fn := fun _ => fun
  | [d1, d2] => { results := [.lit (.bool false)], args := [d1, d2] }
  | _ => none }
def TriangleHoldsWrongFalsely : Prop := triangleHoldsRow.holds Try.pinned (OpenSpec.ofChange triangleHoldsWrong)

/-- 'garmentlaw13.TriangleApart': WHATEVER THE INPUT: true; the input reads as it did. -/
def triangleApartSpec : ChangeSpec := { name := "triangleApart", fn := fun _ => fun
  | [d] => { results := [.lit (.bool true)], args := [d] }
  | _ => none }
def triangleApartRow : OpenClaim := { program := "ytbfiafblabdoeaa", sum := "1f6c8920cec3f513513f16b8b093157c74c76f4a64278384d429c4dc22f8909e", func := "garment/garmentlaw13.TriangleApart", spec := "triangleApart", unfollowed := true, recurses := true, apart := false }
def TriangleApartSaid : Prop := triangleApartRow.holds Try.pinned (OpenSpec.ofChange triangleApartSpec)

/-- ITS FALSE NEIGHBOUR: 'it returns false'. Refute it at one input. -/
def triangleApartWrong : ChangeSpec := { name := "triangleApart", fn := fun _ => fun
  | [d] => { results := [.lit (.bool false)], args := [d] }
  | _ => none }
def TriangleApartWrongFalsely : Prop := triangleApartRow.holds Try.pinned (OpenSpec.ofChange triangleApartWrong)

/-- 'garmentlaw13.TriangleAreas': WHATEVER THE INPUT: true; the input reads as it did. -/
def triangleAreasSpec : ChangeSpec := { name := "triangleAreas", fn := fun _ => fun
  | [d] => { results := [.lit (.bool true)], args := [d] }
  | _ => none }
def triangleAreasRow : OpenClaim := { program := "ytbfiafblabdoeaa", sum := "1f6c8920cec3f513513f16b8b093157c74c76f4a64278384d429c4dc22f8909e", func := "garment/garmentlaw13.TriangleAreas", spec := "triangleAreas", unfollowed := true, recurses := true, apart := false }
def TriangleAreasSaid : Prop := triangleAreasRow.holds Try.pinned (OpenSpec.ofChange triangleAreasSpec)

/-- ITS FALSE NEIGHBOUR: 'it returns false'. Refute it at one input. -/
def triangleAreasWrong : ChangeSpec := { name := "triangleAreas", fn := fun _ => fun
  | [d] => { results := [.lit (.bool false)], args := [d] }
  | _ => none }
def TriangleAreasWrongFalsely : Prop := triangleAreasRow.holds Try.pinned (OpenSpec.ofChange triangleAreasWrong)

/-- 'garmentlaw13.TriangleMoves': WHATEVER THE INPUT: true; the input reads as it did. -/
def triangleMovesSpec : ChangeSpec := { name := "triangleMoves", fn := fun _ => fun
  | [d1, d2] => { results := [.lit (.bool true)], args := [d1, d2] }
  | _ => none }
def triangleMovesRow : OpenClaim := { program := "ytbfiafblabdoeaa", sum := "1f6c8920cec3f513513f16b8b093157c74c76f4a64278384d429c4dc22f8909e", func := "garment/garmentlaw13.TriangleMoves", spec := "triangleMoves", unfollowed := true, recurses := true, apart := false }
def TriangleMovesSaid : Prop := triangleMovesRow.holds Try.pinned (OpenSpec.ofChange triangleMovesSpec)

/-- ITS FALSE NEIGHBOUR: 'it returns false'. Refute it at one input. -/
def triangleMovesWrong : ChangeSpec := { name := "triangleMoves", fn := fun _ => fun
  | [d1, d2] => { results := [.lit (.bool false)], args := [d1, d2] }
  | _ => none }
def TriangleMovesWrongFalsely : Prop := triangleMovesRow.holds Try.pinned (OpenSpec.ofChange triangleMovesWrong)

/-- 'garmentlaw13.TriangleConvex': WHATEVER THE INPUT: true; the input reads as it did. -/
def triangleConvexSpec : ChangeSpec := { name := "triangleConvex", fn := fun _ => fun
  | [d] => { results := [.lit (.bool true)], args := [d] }
  | _ => none }
def triangleConvexRow : OpenClaim := { program := "ytbfiafblabdoeaa", sum := "1f6c8920cec3f513513f16b8b093157c74c76f4a64278384d429c4dc22f8909e", func := "garment/garmentlaw13.TriangleConvex", spec := "triangleConvex", unfollowed := true, recurses := true, apart := false }
def TriangleConvexSaid : Prop := triangleConvexRow.holds Try.pinned (OpenSpec.ofChange triangleConvexSpec)

/-- ITS FALSE NEIGHBOUR: 'it returns false'. Refute it at one input. -/
def triangleConvexWrong : ChangeSpec := { name := "triangleConvex", fn := fun _ => fun
  | [d] => { results := [.lit (.bool false)], args := [d] }
  | _ => none }
def TriangleConvexWrongFalsely : Prop := triangleConvexRow.holds Try.pinned (OpenSpec.ofChange triangleConvexWrong)

/-- 'garmentlaw13.TriangleCovers': WHATEVER THE INPUT: true; the input reads as it did. -/
def triangleCoversSpec : ChangeSpec := { name := "triangleCovers", fn := fun _ => fun
  | [d1, d2] => { results := [.lit (.bool true)], args := [d1, d2] }
  | _ => none }
def triangleCoversRow : OpenClaim := { program := "ytbfiafblabdoeaa", sum := "1f6c8920cec3f513513f16b8b093157c74c76f4a64278384d429c4dc22f8909e", func := "garment/garmentlaw13.TriangleCovers", spec := "triangleCovers", unfollowed := true, recurses := true, apart := false }
def TriangleCoversSaid : Prop := triangleCoversRow.holds Try.pinned (OpenSpec.ofChange triangleCoversSpec)

/-- ITS FALSE NEIGHBOUR: 'it returns false'. Refute it at one input. -/
def triangleCoversWrong : ChangeSpec := { name := "triangleCovers", fn := fun _ => fun
  | [d1, d2] => { results := [.lit (.bool false)], args := [d1, d2] }
  | _ => none }
def TriangleCoversWrongFalsely : Prop := triangleCoversRow.holds Try.pinned (OpenSpec.ofChange triangleCoversWrong)

/-- 'garmentlaw13.TriangleOrders': WHATEVER THE INPUT: true; the input reads as it did. -/
def triangleOrdersSpec : ChangeSpec := { name := "triangleOrders", fn := fun _ => fun
  | [d1, d2, d3] => { results := [.lit (.bool true)], args := [d1, d2, d3] }
  | _ => none }
def triangleOrdersRow : OpenClaim := { program := "ytbfiafblabdoeaa", sum := "1f6c8920cec3f513513f16b8b093157c74c76f4a64278384d429c4dc22f8909e", func := "garment/garmentlaw13.TriangleOrders", spec := "triangleOrders", unfollowed := true, recurses := true, apart := false }
def TriangleOrdersSaid : Prop := triangleOrdersRow.holds Try.pinned (OpenSpec.ofChange triangleOrdersSpec)

/-- ITS FALSE NEIGHBOUR: 'it returns false'. Refute it at one input. -/
def triangleOrdersWrong : ChangeSpec := { name := "triangleOrders", fn := fun _ => fun
  | [d1, d2, d3] => { results := [.lit (.bool false)], args := [d1, d2, d3] }
  | _ => none }
def TriangleOrdersWrongFalsely : Prop := triangleOrdersRow.holds Try.pinned (OpenSpec.ofChange triangleOrdersWrong)

/- THE SECOND FORM. 'bulk': how many values and letters a reading holds, each counted each time it is reached (what is shared counts as often as it is met; a slice's spare places count too). A statement '..UptoSaid' is the law's where the arguments, and the package variables that the reading takes, are together of bulk at most 1048576: NARROWER than '..Said'. Prove '..Said' where nothing that the law and all that it calls make is longer than what came in: it says more and counts as full. Else prove '..UptoSaid'. A law counts once. -/
mutual
def uptoBulk {H : Type} : DataW H → Nat
  | .lit (.string bytes) => bytes.length + 1
  | .lit _ => 1
  | .nil => 1
  | .ptr d => uptoBulk d + 1
  | .slice elems spare => uptoBulkAll elems + uptoBulkAll spare + 1
  | .agg parts => uptoBulkAll parts + 1
  | .iface _ d => uptoBulk d + 1
  | .map entries => uptoBulkEntries entries + 1
  | .held _ => 1
def uptoBulkAll {H : Type} : List (DataW H) → Nat
  | [] => 0
  | d :: r => uptoBulk d + uptoBulkAll r
def uptoBulkEntries {H : Type} : List (Lit × DataW H) → Nat
  | [] => 0
  | x :: r => uptoBulkEntry x + uptoBulkEntries r
def uptoBulkEntry {H : Type} : Lit × DataW H → Nat
  | (.string bytes, d) => bytes.length + uptoBulk d + 1
  | (_, d) => uptoBulk d + 1
 end
def uptoSmall : (H : Type) → List (DataW H) → Bool := fun _ ds => decide (uptoBulkAll ds ≤ 1048576)
def OpenSpec.upto (s : _root_.Go.ChangeSpec) : _root_.Go.OpenSpec := { _root_.Go.OpenSpec.ofChange s with cond := some uptoSmall }

/-- 'garmentlaw13.TriangleHolds', WHERE WHAT IT READS IS OF BULK AT MOST 1048576: true; the input reads as it did. -/
def triangleHoldsUptoRow : OpenClaim := { program := "ytbfiafblabdoeaa", sum := "1f6c8920cec3f513513f16b8b093157c74c76f4a64278384d429c4dc22f8909e", func := "garment/garmentlaw13.TriangleHolds", spec := "triangleHolds", unfollowed := true, recurses := true, apart := false, narrowed := true }
def TriangleHoldsUptoSaid : Prop := triangleHoldsUptoRow.holds Try.pinned (OpenSpec.upto triangleHoldsSpec)

/-- 'garmentlaw13.TriangleApart', WHERE WHAT IT READS IS OF BULK AT MOST 1048576: true; the input reads as it did. -/
def triangleApartUptoRow : OpenClaim := { program := "ytbfiafblabdoeaa", sum := "1f6c8920cec3f513513f16b8b093157c74c76f4a64278384d429c4dc22f8909e", func := "garment/garmentlaw13.TriangleApart", spec := "triangleApart", unfollowed := true, recurses := true, apart := false, narrowed := true }
def TriangleApartUptoSaid : Prop := triangleApartUptoRow.holds Try.pinned (OpenSpec.upto triangleApartSpec)

/-- 'garmentlaw13.TriangleAreas', WHERE WHAT IT READS IS OF BULK AT MOST 1048576: true; the input reads as it did. -/
def triangleAreasUptoRow : OpenClaim := { program := "ytbfiafblabdoeaa", sum := "1f6c8920cec3f513513f16b8b093157c74c76f4a64278384d429c4dc22f8909e", func := "garment/garmentlaw13.TriangleAreas", spec := "triangleAreas", unfollowed := true, recurses := true, apart := false, narrowed := true }
def TriangleAreasUptoSaid : Prop := triangleAreasUptoRow.holds Try.pinned (OpenSpec.upto triangleAreasSpec)

/-- 'garmentlaw13.TriangleMoves', WHERE WHAT IT READS IS OF BULK AT MOST 1048576: true; the input reads as it did. -/
def triangleMovesUptoRow : OpenClaim := { program := "ytbfiafblabdoeaa", sum := "1f6c8920cec3f513513f16b8b093157c74c76f4a64278384d429c4dc22f8909e", func := "garment/garmentlaw13.TriangleMoves", spec := "triangleMoves", unfollowed := true, recurses := true, apart := false, narrowed := true }
def TriangleMovesUptoSaid : Prop := triangleMovesUptoRow.holds Try.pinned (OpenSpec.upto triangleMovesSpec)

/-- 'garmentlaw13.TriangleConvex', WHERE WHAT IT READS IS OF BULK AT MOST 1048576: true; the input reads as it did. -/
def triangleConvexUptoRow : OpenClaim := { program := "ytbfiafblabdoeaa", sum := "1f6c8920cec3f513513f16b8b093157c74c76f4a64278384d429c4dc22f8909e", func := "garment/garmentlaw13.TriangleConvex", spec := "triangleConvex", unfollowed := true, recurses := true, apart := false, narrowed := true }
def TriangleConvexUptoSaid : Prop := triangleConvexUptoRow.holds Try.pinned (OpenSpec.upto triangleConvexSpec)

/-- 'garmentlaw13.TriangleCovers', WHERE WHAT IT READS IS OF BULK AT MOST 1048576: true; the input reads as it did. -/
def triangleCoversUptoRow : OpenClaim := { program := "ytbfiafblabdoeaa", sum := "1f6c8920cec3f513513f16b8b093157c74c76f4a64278384d429c4dc22f8909e", func := "garment/garmentlaw13.TriangleCovers", spec := "triangleCovers", unfollowed := true, recurses := true, apart := false, narrowed := true }
def TriangleCoversUptoSaid : Prop := triangleCoversUptoRow.holds Try.pinned (OpenSpec.upto triangleCoversSpec)

/-- 'garmentlaw13.TriangleOrders', WHERE WHAT IT READS IS OF BULK AT MOST 1048576: true; the input reads as it did. -/
def triangleOrdersUptoRow : OpenClaim := { program := "ytbfiafblabdoeaa", sum := "1f6c8920cec3f513513f16b8b093157c74c76f4a64278384d429c4dc22f8909e", func := "garment/garmentlaw13.TriangleOrders", spec := "triangleOrders", unfollowed := true, recurses := true, apart := false, narrowed := true }
def TriangleOrdersUptoSaid : Prop := triangleOrdersUptoRow.holds Try.pinned (OpenSpec.upto triangleOrdersSpec)

end Rows
end Go.Proofs.Ytbfiafblabdoeaa
