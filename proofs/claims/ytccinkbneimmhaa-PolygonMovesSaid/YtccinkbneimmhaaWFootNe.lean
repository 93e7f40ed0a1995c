/- Words of the kit's print, cut down by a program of this session to what this claim names: no longer the text that the print laid. -/
import Derived.Test.YtccinkbneimmhaaWN
/-! ### 52. A row that stays read whatever happens to a block (a set of blocks) doesn't lie there -/
namespace Go.Proofs.YtccinkbneimmhaaW.PrintWords
open Go.RowKit
namespace Kd
section
variable {α : Type} {d : Kd α} {W : World} {g n : Nat} {S ok : Nat → Prop} {A : Option Addr} {ad : Addr} {xs : List α}
end
end Kd
end Go.Proofs.YtccinkbneimmhaaW.PrintWords
