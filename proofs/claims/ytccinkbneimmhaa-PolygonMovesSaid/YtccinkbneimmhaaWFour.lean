/- Words of the kit's print, cut down by a program of this session to what this claim names: no longer the text that the print laid. -/
import Derived.Test.YtccinkbneimmhaaWTab
/-! ### 56. Four, five, six operations that may come up next, in any order -/
namespace Go.Proofs.YtccinkbneimmhaaW.PrintLast
section
variable {P : Program} {ops : Array Oper} {Q : Exit → Act → World → Prop} {md : Region.Mode} {S : World → Prop} {ds : List Nat} {T : Bool × List (List Nat × List Nat)}
end
end Go.Proofs.YtccinkbneimmhaaW.PrintLast
