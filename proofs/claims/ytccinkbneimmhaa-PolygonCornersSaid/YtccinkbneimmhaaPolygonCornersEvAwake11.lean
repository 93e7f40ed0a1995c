/- Chapter 11: the examples, and lists in the opposite order. -/
import Derived.Test.YtccinkbneimmhaaPPolygonCornersx0
import Derived.Test.YtccinkbneimmhaaPPolygonCornersx1
import Derived.Test.YtccinkbneimmhaaPPolygonCornersx2
import Derived.Test.YtccinkbneimmhaaPPolygonCornersx3
import Derived.Test.YtccinkbneimmhaaPPolygonCornersx4
import Derived.Test.YtccinkbneimmhaaPPolygonCornersx5
import Derived.Test.YtccinkbneimmhaaPPolygonCornersx6
import Derived.Test.YtccinkbneimmhaaPPolygonCornersx7
import Derived.Test.YtccinkbneimmhaaPPolygonCornersx8
import Derived.Test.YtccinkbneimmhaaPPolygonCornersx9
import Derived.Test.YtccinkbneimmhaaPPolygonCornersx10
import Derived.Test.YtccinkbneimmhaaPPolygonCornersx11
import Derived.Test.YtccinkbneimmhaaPPolygonCornersx12
import Derived.Test.YtccinkbneimmhaaPPolygonCornersx13
import Derived.Test.YtccinkbneimmhaaPPolygonCornersx14
import Derived.Test.YtccinkbneimmhaaPolygonCornersEvPoly2
namespace Go.Proofs.Ytccinkbneimmhaa.PPolygonCorners
open Go.RowKit Go.Proofs.YtccinkbneimmhaaW.PrintWords Go.Proofs.YtccinkbneimmhaaW.PrintLast Geo
theorem awake_ev : Evt (fun k => garmentlaw11_awake.f k) true := by
  have h : garmentlaw11_awake.f 100 = some true := by decide +kernel
  refine ⟨100, fun k hk => ?_⟩
  obtain ⟨d, rfl⟩ : ∃ d, k = 100 + d := ⟨k - 100, by omega⟩
  clear hk
  induction d with
  | zero => exact h
  | succ d ih => exact garmentlaw11_awake.mono _ _ ih
theorem awake_end : Evt (fun k => (garmentlaw11_awake.f k).bind fun t => some t) true := Evt.bind awake_ev (Evt.ret _)
end Go.Proofs.Ytccinkbneimmhaa.PPolygonCorners
