/- Chapter 11: the examples, and lists in the opposite order. -/
import Derived.Test.YtccinkbneimmhaaPPolygonMovesx0
import Derived.Test.YtccinkbneimmhaaPPolygonMovesx1
import Derived.Test.YtccinkbneimmhaaPPolygonMovesx2
import Derived.Test.YtccinkbneimmhaaPPolygonMovesx3
import Derived.Test.YtccinkbneimmhaaPPolygonMovesx4
import Derived.Test.YtccinkbneimmhaaPPolygonMovesx5
import Derived.Test.YtccinkbneimmhaaPPolygonMovesx6
import Derived.Test.YtccinkbneimmhaaPPolygonMovesx7
import Derived.Test.YtccinkbneimmhaaPPolygonMovesx8
import Derived.Test.YtccinkbneimmhaaPPolygonMovesx9
import Derived.Test.YtccinkbneimmhaaPPolygonMovesx10
import Derived.Test.YtccinkbneimmhaaPPolygonMovesx11
import Derived.Test.YtccinkbneimmhaaPPolygonMovesx12
import Derived.Test.YtccinkbneimmhaaPPolygonMovesx13
import Derived.Test.YtccinkbneimmhaaPPolygonMovesx14
import Derived.Test.YtccinkbneimmhaaPolygonMovesEvPoly2
namespace Go.Proofs.Ytccinkbneimmhaa.PPolygonMoves
open Go.RowKit Go.Proofs.YtccinkbneimmhaaW.PrintWords Go.Proofs.YtccinkbneimmhaaW.PrintLast Geo
theorem awake_ev : Evt (fun k => garmentlaw11_awake.f k) true := by
  have h : garmentlaw11_awake.f 100 = some true := by decide +kernel
  refine ⟨100, fun k hk => ?_⟩
  obtain ⟨d, rfl⟩ : ∃ d, k = 100 + d := ⟨k - 100, by omega⟩
  clear hk
  induction d with
  | zero => exact h
  | succ d ih => exact garmentlaw11_awake.mono _ _ ih
theorem awake_end : Evt (fun k => (garmentlaw11_awake.f k).bind fun t => some t) true := Evt.bind awake_ev (Evt.ret _)
end Go.Proofs.Ytccinkbneimmhaa.PPolygonMoves
