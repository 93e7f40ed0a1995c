/-
  No cell of these rows narrows 'for every input' (looked for: loops, veiled, ifaces, maps, wideKeys, modest, calm, conditions, laid).
  DERIVED. THE GIVEN ROWS OF THIS SEAT. 6 by the template 'for every input the law returns true; each argument reads behind the call as it read before'; 0 by the template 'total and deterministic' (their statements: YtjkdnhlklpmjhaaTotals.lean).
  GIVEN WITH THE SEED: the statements are not yours to turn. If you find one false, say at which input.
  Laid BY PROGRAM, IN A SANDBOX (cutbox-rows.mjs): the forced cells as the released guide's own fill.sh prints them over the translation 13830667faf2eaf6… (all of the seat's roots in one cut). By AI agents, Wed Nov 11 2026. No macro, syntax, notation, axiom, sorry.
-/
import Derived.Test.YtjkdnhlklpmjhaaChecked
import GoSem.Claim
import GoSem.ClaimJoined
import GoSem.ClaimMapViews
import Derived.JoinedTies
import Derived.KernelRfl
namespace Go.Proofs.Ytjkdnhlklpmjhaa
/- THE CELL 'sum', in the pinned program and in every row, IS THE sha256 OF THE DUMP (.gsa) THAT YtjkdnhlklpmjhaaProg.lean LOADS. Nothing in Lean hashes anything: it is a label: what it is worth is what the hold of that sum in a sandbox is worth. -/
noncomputable def Try.pinned : Pinned := { name := "ytjkdnhlklpmjhaa", sum := "13830667faf2eaf615b83fa31e97d06efd784edd04297fae6e9bc789bb535c8f", checked := Try.checked }
namespace Rows
def none {H : Type} : Left H := { results := [], args := [] }

/-- 'garmentlaw43.RecutResults': WHATEVER THE INPUT: true; the input reads as it did. -/
def recutResultsSpec : ChangeSpec := { name := "recutResults", fn := fun _ => fun
  | [d1, d2, d3] => { results := [.lit (.bool true)], args := [d1, d2, d3] }
  | _ => none }
def recutResultsRow : OpenClaim := { program := "ytjkdnhlklpmjhaa", sum := "13830667faf2eaf615b83fa31e97d06efd784edd04297fae6e9bc789bb535c8f", func := "garment/garmentlaw43.RecutResults", spec := "recutResults", unfollowed := true, recurses := true, apart := false }
def RecutResultsSaid : Prop := recutResultsRow.holds Try.pinned (OpenSpec.ofChange recutResultsSpec)

/-- ITS FALSE NEIGHBOUR: 'it returns false'. Refute it at one input. -/
def recutResultsWrong : ChangeSpec := { name := "recutResults", fn := fun _ => fun
  | [d1, d2, d3] => { results := [.lit (.bool false)], args := [d1, d2, d3] }
  | _ => none }
def RecutResultsWrongFalsely : Prop := recutResultsRow.holds Try.pinned (OpenSpec.ofChange recutResultsWrong)

/-- 'garmentlaw43.RecutShade': WHATEVER THE INPUT: true; the input reads as it did. -/
def recutShadeSpec : ChangeSpec := { name := "recutShade", fn := fun _ => fun
  | [d1, d2, d3] => { results := [.lit (.bool true)], args := [d1, d2, d3] }
  | _ => none }
def recutShadeRow : OpenClaim := { program := "ytjkdnhlklpmjhaa", sum := "13830667faf2eaf615b83fa31e97d06efd784edd04297fae6e9bc789bb535c8f", func := "garment/garmentlaw43.RecutShade", spec := "recutShade", unfollowed := true, recurses := true, apart := false }
def RecutShadeSaid : Prop := recutShadeRow.holds Try.pinned (OpenSpec.ofChange recutShadeSpec)

/-- ITS FALSE NEIGHBOUR: 'it returns false'. Refute it at one input. -/
def recutShadeWrong : ChangeSpec := { name := "recutShade", fn := fun _ => fun
  | [d1, d2, d3] => { results := [.lit (.bool false)], args := [d1, d2, d3] }
  | _ => none }
def RecutShadeWrongFalsely : Prop := recutShadeRow.holds Try.pinned (OpenSpec.ofChange recutShadeWrong)

/-- 'garmentlaw43.RecutCloth': WHATEVER THE INPUT: true; the input reads as it did. -/
def recutClothSpec : ChangeSpec := { name := "recutCloth", fn := fun _ => fun
  | [d1, d2] => { results := [.lit (.bool true)], args := [d1, d2] }
  | _ => none }
def recutClothRow : OpenClaim := { program := "ytjkdnhlklpmjhaa", sum := "13830667faf2eaf615b83fa31e97d06efd784edd04297fae6e9bc789bb535c8f", func := "garment/garmentlaw43.RecutCloth", spec := "recutCloth", unfollowed := true, recurses := true, apart := false }
def RecutClothSaid : Prop := recutClothRow.holds Try.pinned (OpenSpec.ofChange recutClothSpec)

/-- ITS FALSE NEIGHBOUR: 'it returns false'. Refute it at one input. -/
def recutClothWrong : ChangeSpec := { name := "recutCloth", fn := fun _ => fun
  | [d1, d2] => { results := [.lit (.bool false)], args := [d1, d2] }
  | _ => none }
def RecutClothWrongFalsely : Prop := recutClothRow.holds Try.pinned (OpenSpec.ofChange recutClothWrong)

/-- 'garmentlaw43.RecutGreedy': WHATEVER THE INPUT: true; the input reads as it did. -/
def recutGreedySpec : ChangeSpec := { name := "recutGreedy", fn := fun _ => fun
  | [d1, d2] => { results := [.lit (.bool true)], args := [d1, d2] }
  | _ => none }
def recutGreedyRow : OpenClaim := { program := "ytjkdnhlklpmjhaa", sum := "13830667faf2eaf615b83fa31e97d06efd784edd04297fae6e9bc789bb535c8f", func := "garment/garmentlaw43.RecutGreedy", spec := "recutGreedy", unfollowed := true, recurses := true, apart := false }
def RecutGreedySaid : Prop := recutGreedyRow.holds Try.pinned (OpenSpec.ofChange recutGreedySpec)

/-- ITS FALSE NEIGHBOUR: 'it returns false'. Refute it at one input. -/
def recutGreedyWrong : ChangeSpec := { name := "recutGreedy", fn := fun _ => fun
  | [d1, d2] => { results := [.lit (.bool false)], args := [d1, d2] }
  | _ => none }
def RecutGreedyWrongFalsely : Prop := recutGreedyRow.holds Try.pinned (OpenSpec.ofChange recutGreedyWrong)

/-- 'garmentlaw43.RecutTwice': WHATEVER THE INPUT: true; the input reads as it did. -/
def recutTwiceSpec : ChangeSpec := { name := "recutTwice", fn := fun _ => fun
  | [d1, d2, d3] => { results := [.lit (.bool true)], args := [d1, d2, d3] }
  | _ => none }
def recutTwiceRow : OpenClaim := { program := "ytjkdnhlklpmjhaa", sum := "13830667faf2eaf615b83fa31e97d06efd784edd04297fae6e9bc789bb535c8f", func := "garment/garmentlaw43.RecutTwice", spec := "recutTwice", unfollowed := true, recurses := true, apart := false }
def RecutTwiceSaid : Prop := recutTwiceRow.holds Try.pinned (OpenSpec.ofChange recutTwiceSpec)

/-- ITS FALSE NEIGHBOUR: 'it returns false'. Refute it at one input. -/
def recutTwiceWrong : ChangeSpec := { name := "recutTwice", fn := fun _ => fun
  | [d1, d2, d3] => { results := [.lit (.bool false)], args := [d1, d2, d3] }
  | _ => none }
def RecutTwiceWrongFalsely : Prop := recutTwiceRow.holds Try.pinned (OpenSpec.ofChange recutTwiceWrong)

/-- 'garmentlaw43.RecutEnough': WHATEVER THE INPUT: true; the input reads as it did. -/
def recutEnoughSpec : ChangeSpec := { name := "recutEnough", fn := fun _ => fun
  | [d1, d2, d3, d4] => { results := [.lit (.bool true)], args := [d1, d2, d3, d4] }
  | _ => none }
def recutEnoughRow : OpenClaim := { program := "ytjkdnhlklpmjhaa", sum := "13830667faf2eaf615b83fa31e97d06efd784edd04297fae6e9bc789bb535c8f", func := "garment/garmentlaw43.RecutEnough", spec := "recutEnough", unfollowed := true, recurses := true, apart := false }
def RecutEnoughSaid : Prop := recutEnoughRow.holds Try.pinned (OpenSpec.ofChange recutEnoughSpec)

/-- ITS FALSE NEIGHBOUR: 'it returns false'. Refute it at one input. -/
def recutEnoughWrong : ChangeSpec := { name := "recutEnough", fn := fun _ => fun
  | [d1, d2, d3, d4] => { results := [.lit (.bool false)], args := [d1, d2, d3, d4] }
  | _ => none }
def RecutEnoughWrongFalsely : Prop := recutEnoughRow.holds Try.pinned (OpenSpec.ofChange recutEnoughWrong)

/- THE SECOND FORM. 'bulk': how many values and letters a reading holds, each counted each time it is reached (what is shared counts as often as it is met; a slice's spare places count too). A statement '..UptoSaid' is the law's where the arguments, and the package variables that the reading takes, are together of bulk at most 1048576: NARROWER than '..Said'. Prove '..Said' where nothing that the law and all that it calls make is longer than what came in: it says more and counts as full. Else prove '..UptoSaid'. A law counts once. -/
mutual
def uptoBulk {H : Type} : DataW H → Nat
  | .lit (.string bytes) => bytes.length + 1
  | .lit _ => 1
  | .nil => 1
  | .ptr d => uptoBulk d + 1
  | .slice elems spare => uptoBulkAll elems + uptoBulkAll spare + 1
  | .agg parts => uptoBulkAll parts + 1
  | .iface _ d => uptoBulk d + 1
  | .map entries => uptoBulkEntries entries + 1
  | .held _ => 1
def uptoBulkAll {H : Type} : List (DataW H) → Nat
  | [] => 0
  | d :: r => uptoBulk d + uptoBulkAll r
def uptoBulkEntries {H : Type} : List (Lit × DataW H) → Nat
  | [] => 0
  | x :: r => uptoBulkEntry x + uptoBulkEntries r
def uptoBulkEntry {H : Type} : Lit × DataW H → Nat
  | (.string bytes, d) => bytes.length + uptoBulk d + 1
  | (_, d) => uptoBulk d + 1
 end
def uptoSmall : (H : Type) → List (DataW H) → Bool := fun _ ds => decide (uptoBulkAll ds ≤ 1048576)
def OpenSpec.upto (s : _root_.Go.ChangeSpec) : _root_.Go.OpenSpec := { _root_.Go.OpenSpec.ofChange s with cond := some uptoSmall }

/-- 'garmentlaw43.RecutResults', WHERE WHAT IT READS IS OF BULK AT MOST 1048576: true; the input reads as it did. -/
def recutResultsUptoRow : OpenClaim := { program := "ytjkdnhlklpmjhaa", sum := "13830667faf2eaf615b83fa31e97d06efd784edd04297fae6e9bc789bb535c8f", func := "garment/garmentlaw43.RecutResults", spec := "recutResults", unfollowed := true, recurses := true, apart := false, narrowed := true }
def RecutResultsUptoSaid : Prop := recutResultsUptoRow.holds Try.pinned (OpenSpec.upto recutResultsSpec)

/-- 'garmentlaw43.RecutShade', WHERE WHAT IT READS IS OF BULK AT MOST 1048576: true; the input reads as it did. -/
def recutShadeUptoRow : OpenClaim := { program := "ytjkdnhlklpmjhaa", sum := "13830667faf2eaf615b83fa31e97d06efd784edd04297fae6e9bc789bb535c8f", func := "garment/garmentlaw43.RecutShade", spec := "recutShade", unfollowed := true, recurses := true, apart := false, narrowed := true }
def RecutShadeUptoSaid : Prop := recutShadeUptoRow.holds Try.pinned (OpenSpec.upto recutShadeSpec)

/-- 'garmentlaw43.RecutCloth', WHERE WHAT IT READS IS OF BULK AT MOST 1048576: true; the input reads as it did. -/
def recutClothUptoRow : OpenClaim := { program := "ytjkdnhlklpmjhaa", sum := "13830667faf2eaf615b83fa31e97d06efd784edd04297fae6e9bc789bb535c8f", func := "garment/garmentlaw43.RecutCloth", spec := "recutCloth", unfollowed := true, recurses := true, apart := false, narrowed := true }
def RecutClothUptoSaid : Prop := recutClothUptoRow.holds Try.pinned (OpenSpec.upto recutClothSpec)

/-- 'garmentlaw43.RecutGreedy', WHERE WHAT IT READS IS OF BULK AT MOST 1048576: true; the input reads as it did. -/
def recutGreedyUptoRow : OpenClaim := { program := "ytjkdnhlklpmjhaa", sum := "13830667faf2eaf615b83fa31e97d06efd784edd04297fae6e9bc789bb535c8f", func := "garment/garmentlaw43.RecutGreedy", spec := "recutGreedy", unfollowed := true, recurses := true, apart := false, narrowed := true }
def RecutGreedyUptoSaid : Prop := recutGreedyUptoRow.holds Try.pinned (OpenSpec.upto recutGreedySpec)

/-- 'garmentlaw43.RecutTwice', WHERE WHAT IT READS IS OF BULK AT MOST 1048576: true; the input reads as it did. -/
def recutTwiceUptoRow : OpenClaim := { program := "ytjkdnhlklpmjhaa", sum := "13830667faf2eaf615b83fa31e97d06efd784edd04297fae6e9bc789bb535c8f", func := "garment/garmentlaw43.RecutTwice", spec := "recutTwice", unfollowed := true, recurses := true, apart := false, narrowed := true }
def RecutTwiceUptoSaid : Prop := recutTwiceUptoRow.holds Try.pinned (OpenSpec.upto recutTwiceSpec)

/-- 'garmentlaw43.RecutEnough', WHERE WHAT IT READS IS OF BULK AT MOST 1048576: true; the input reads as it did. -/
def recutEnoughUptoRow : OpenClaim := { program := "ytjkdnhlklpmjhaa", sum := "13830667faf2eaf615b83fa31e97d06efd784edd04297fae6e9bc789bb535c8f", func := "garment/garmentlaw43.RecutEnough", spec := "recutEnough", unfollowed := true, recurses := true, apart := false, narrowed := true }
def RecutEnoughUptoSaid : Prop := recutEnoughUptoRow.holds Try.pinned (OpenSpec.upto recutEnoughSpec)

end Rows
end Go.Proofs.Ytjkdnhlklpmjhaa
