/-
  No cell of these rows narrows 'for every input' (looked for: loops, veiled, ifaces, maps, wideKeys, modest, calm, conditions, laid).
  DERIVED. THE GIVEN ROWS OF THIS SEAT. 4 by the template 'for every input the law returns true; each argument reads behind the call as it read before'; 0 by the template 'total and deterministic' (their statements: YtakefijfdgpdoaaTotals.lean).
  GIVEN WITH THE SEED: the statements are not yours to turn. If you find one false, say at which input.
  Laid BY PROGRAM, IN A SANDBOX (cutbox-rows.mjs): the forced cells as the released guide's own fill.sh prints them over the translation 865dd69fc4646d8e… (all of the seat's roots in one cut). By AI agents, Wed Nov 11 2026. No macro, syntax, notation, axiom, sorry.
-/
import Derived.Test.YtakefijfdgpdoaaChecked
import GoSem.Claim
import GoSem.ClaimJoined
import GoSem.ClaimMapViews
import Derived.JoinedTies
import Derived.KernelRfl
namespace Go.Proofs.Ytakefijfdgpdoaa
/- THE CELL 'sum', in the pinned program and in every row, IS THE sha256 OF THE DUMP (.gsa) THAT YtakefijfdgpdoaaProg.lean LOADS. Nothing in Lean hashes anything: it is a label: what it is worth is what the hold of that sum in a sandbox is worth. -/
noncomputable def Try.pinned : Pinned := { name := "ytakefijfdgpdoaa", sum := "865dd69fc4646d8ee7d63e3e0562f9fc8799503f05f9e0568291910895d99536", checked := Try.checked }
namespace Rows
def none {H : Type} : Left H := { results := [], args := [] }

/-- 'garmentlaw37.SpliceWhole': WHATEVER THE INPUT: true; the input reads as it did. -/
def spliceWholeSpec : ChangeSpec := { name := "spliceWhole", fn := fun _ => fun
  | [d1, d2, d3, d4] => { results := [.lit (.bool true)], args := [d1, d2, d3, d4] }
  | _ => none }
def spliceWholeRow : OpenClaim := { program := "ytakefijfdgpdoaa", sum := "865dd69fc4646d8ee7d63e3e0562f9fc8799503f05f9e0568291910895d99536", func := "garment/garmentlaw37.SpliceWhole", spec := "spliceWhole", apart := false }
def SpliceWholeSaid : Prop := spliceWholeRow.holds Try.pinned (OpenSpec.ofChange spliceWholeSpec)

/-- ITS FALSE NEIGHBOUR: 'it returns false'. Refute it at one input. -/
def spliceWholeWrong : ChangeSpec := { name := "spliceWhole", fn := fun _ => fun
  | [d1, d2, d3, d4] => { results := [.lit (.bool false)], args := [d1, d2, d3, d4] }
  | _ => none }
def SpliceWholeWrongFalsely : Prop := spliceWholeRow.holds Try.pinned (OpenSpec.ofChange spliceWholeWrong)

/-- 'garmentlaw37.SpliceLeast': WHATEVER THE INPUT: true; the input reads as it did. -/
def spliceLeastSpec : ChangeSpec := { name := "spliceLeast", fn := fun _ => fun
  | [d1, d2, d3, d4] => { results := [.lit (.bool true)], args := [d1, d2, d3, d4] }
  | _ => none }
def spliceLeastRow : OpenClaim := { program := "ytakefijfdgpdoaa", sum := "865dd69fc4646d8ee7d63e3e0562f9fc8799503f05f9e0568291910895d99536", func := "garment/garmentlaw37.SpliceLeast", spec := "spliceLeast", apart := false }
def SpliceLeastSaid : Prop := spliceLeastRow.holds Try.pinned (OpenSpec.ofChange spliceLeastSpec)

/-- ITS FALSE NEIGHBOUR: 'it returns false'. Refute it at one input. -/
def spliceLeastWrong : ChangeSpec := { name := "spliceLeast", fn := fun _ => fun
  | [d1, d2, d3, d4] => { results := [.lit (.bool false)], args := [d1, d2, d3, d4] }
  | _ => none }
def SpliceLeastWrongFalsely : Prop := spliceLeastRow.holds Try.pinned (OpenSpec.ofChange spliceLeastWrong)

/-- 'garmentlaw37.SpliceRises': WHATEVER THE INPUT: true; the input reads as it did. -/
def spliceRisesSpec : ChangeSpec := { name := "spliceRises", fn := fun _ => fun
  | [d1, d2, d3, d4] => { results := [.lit (.bool true)], args := [d1, d2, d3, d4] }
  | _ => none }
def spliceRisesRow : OpenClaim := { program := "ytakefijfdgpdoaa", sum := "865dd69fc4646d8ee7d63e3e0562f9fc8799503f05f9e0568291910895d99536", func := "garment/garmentlaw37.SpliceRises", spec := "spliceRises", apart := false }
def SpliceRisesSaid : Prop := spliceRisesRow.holds Try.pinned (OpenSpec.ofChange spliceRisesSpec)

/-- ITS FALSE NEIGHBOUR: 'it returns false'. Refute it at one input. -/
def spliceRisesWrong : ChangeSpec := { name := "spliceRises", fn := fun _ => fun
  | [d1, d2, d3, d4] => { results := [.lit (.bool false)], args := [d1, d2, d3, d4] }
  | _ => none }
def SpliceRisesWrongFalsely : Prop := spliceRisesRow.holds Try.pinned (OpenSpec.ofChange spliceRisesWrong)

/-- 'garmentlaw37.SpliceOrder': WHATEVER THE INPUT: true; the input reads as it did. -/
def spliceOrderSpec : ChangeSpec := { name := "spliceOrder", fn := fun _ => fun
  | [d1, d2, d3, d4] => { results := [.lit (.bool true)], args := [d1, d2, d3, d4] }
  | _ => none }
def spliceOrderRow : OpenClaim := { program := "ytakefijfdgpdoaa", sum := "865dd69fc4646d8ee7d63e3e0562f9fc8799503f05f9e0568291910895d99536", func := "garment/garmentlaw37.SpliceOrder", spec := "spliceOrder", apart := false }
def SpliceOrderSaid : Prop := spliceOrderRow.holds Try.pinned (OpenSpec.ofChange spliceOrderSpec)

/-- ITS FALSE NEIGHBOUR: 'it returns false'. Refute it at one input. -/
def spliceOrderWrong : ChangeSpec := { name := "spliceOrder", fn := fun _ => fun
  | [d1, d2, d3, d4] => { results := [.lit (.bool false)], args := [d1, d2, d3, d4] }
  | _ => none }
def SpliceOrderWrongFalsely : Prop := spliceOrderRow.holds Try.pinned (OpenSpec.ofChange spliceOrderWrong)

/- THE SECOND FORM. 'bulk': how many values and letters a reading holds, each counted each time it is reached (what is shared counts as often as it is met; a slice's spare places count too). A statement '..UptoSaid' is the law's where the arguments, and the package variables that the reading takes, are together of bulk at most 1048576: NARROWER than '..Said'. Prove '..Said' where nothing that the law and all that it calls make is longer than what came in: it says more and counts as full. Else prove '..UptoSaid'. A law counts once. -/
mutual
def uptoBulk {H : Type} : DataW H → Nat
  | .lit (.string bytes) => bytes.length + 1
  | .lit _ => 1
  | .nil => 1
  | .ptr d => uptoBulk d + 1
  | .slice elems spare => uptoBulkAll elems + uptoBulkAll spare + 1
  | .agg parts => uptoBulkAll parts + 1
  | .iface _ d => uptoBulk d + 1
  | .map entries => uptoBulkEntries entries + 1
  | .held _ => 1
def uptoBulkAll {H : Type} : List (DataW H) → Nat
  | [] => 0
  | d :: r => uptoBulk d + uptoBulkAll r
def uptoBulkEntries {H : Type} : List (Lit × DataW H) → Nat
  | [] => 0
  | x :: r => uptoBulkEntry x + uptoBulkEntries r
def uptoBulkEntry {H : Type} : Lit × DataW H → Nat
  | (.string bytes, d) => bytes.length + uptoBulk d + 1
  | (_, d) => uptoBulk d + 1
 end
def uptoSmall : (H : Type) → List (DataW H) → Bool := fun _ ds => decide (uptoBulkAll ds ≤ 1048576)
def OpenSpec.upto (s : _root_.Go.ChangeSpec) : _root_.Go.OpenSpec := { _root_.Go.OpenSpec.ofChange s with cond := some uptoSmall }

/-- 'garmentlaw37.SpliceWhole', WHERE WHAT IT READS IS OF BULK AT MOST 1048576: true; the input reads as it did. -/
def spliceWholeUptoRow : OpenClaim := { program := "ytakefijfdgpdoaa", sum := "865dd69fc4646d8ee7d63e3e0562f9fc8799503f05f9e0568291910895d99536", func := "garment/garmentlaw37.SpliceWhole", spec := "spliceWhole", apart := false, narrowed := true }
def SpliceWholeUptoSaid : Prop := spliceWholeUptoRow.holds Try.pinned (OpenSpec.upto spliceWholeSpec)

/-- 'garmentlaw37.SpliceLeast', WHERE WHAT IT READS IS OF BULK AT MOST 1048576: true; the input reads as it did. -/
def spliceLeastUptoRow : OpenClaim := { program := "ytakefijfdgpdoaa", sum := "865dd69fc4646d8ee7d63e3e0562f9fc8799503f05f9e0568291910895d99536", func := "garment/garmentlaw37.SpliceLeast", spec := "spliceLeast", apart := false, narrowed := true }
def SpliceLeastUptoSaid : Prop := spliceLeastUptoRow.holds Try.pinned (OpenSpec.upto spliceLeastSpec)

/-- 'garmentlaw37.SpliceRises', WHERE WHAT IT READS IS OF BULK AT MOST 1048576: true; the input reads as it did. -/
def spliceRisesUptoRow : OpenClaim := { program := "ytakefijfdgpdoaa", sum := "865dd69fc4646d8ee7d63e3e0562f9fc8799503f05f9e0568291910895d99536", func := "garment/garmentlaw37.SpliceRises", spec := "spliceRises", apart := false, narrowed := true }
def SpliceRisesUptoSaid : Prop := spliceRisesUptoRow.holds Try.pinned (OpenSpec.upto spliceRisesSpec)

/-- 'garmentlaw37.SpliceOrder', WHERE WHAT IT READS IS OF BULK AT MOST 1048576: true; the input reads as it did. -/
def spliceOrderUptoRow : OpenClaim := { program := "ytakefijfdgpdoaa", sum := "865dd69fc4646d8ee7d63e3e0562f9fc8799503f05f9e0568291910895d99536", func := "garment/garmentlaw37.SpliceOrder", spec := "spliceOrder", apart := false, narrowed := true }
def SpliceOrderUptoSaid : Prop := spliceOrderUptoRow.holds Try.pinned (OpenSpec.upto spliceOrderSpec)

end Rows
end Go.Proofs.Ytakefijfdgpdoaa
