/- Words of the kit's print, cut down by a program of this session to what this claim names: no longer the text that the print laid. -/
import Derived.Test.YtccinkbneimmhaaWInv
import Derived.Test.YtccinkbneimmhaaWFootNe
namespace Go.Proofs.YtccinkbneimmhaaW.PrintWords
open Go.RowKit
end Go.Proofs.YtccinkbneimmhaaW.PrintWords
namespace Go.Proofs.YtccinkbneimmhaaW.PrintLast
section
variable {ops : Array Oper} {a : Act} {o og : Oper} {g : Nat} {t : Tmp} {u : Bool}
end
end Go.Proofs.YtccinkbneimmhaaW.PrintLast
