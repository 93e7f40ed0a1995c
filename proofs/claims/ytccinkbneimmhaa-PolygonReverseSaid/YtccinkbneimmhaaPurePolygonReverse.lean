/- A polygon in the opposite order: the statement over numbers and lists, for every input. -/
import Derived.Test.YtccinkbneimmhaaPPolygonReversex0
import Derived.Test.YtccinkbneimmhaaPPolygonReversex1
import Derived.Test.YtccinkbneimmhaaPPolygonReversex2
import Derived.Test.YtccinkbneimmhaaPPolygonReversex3
import Derived.Test.YtccinkbneimmhaaPPolygonReversex4
import Derived.Test.YtccinkbneimmhaaPPolygonReversex5
import Derived.Test.YtccinkbneimmhaaPPolygonReversex6
import Derived.Test.YtccinkbneimmhaaPPolygonReversex7
import Derived.Test.YtccinkbneimmhaaPPolygonReversex8
import Derived.Test.YtccinkbneimmhaaPPolygonReversex9
import Derived.Test.YtccinkbneimmhaaPPolygonReversex10
import Derived.Test.YtccinkbneimmhaaPPolygonReversex11
import Derived.Test.YtccinkbneimmhaaPPolygonReversex12
import Derived.Test.YtccinkbneimmhaaPPolygonReversex13
import Derived.Test.YtccinkbneimmhaaPolygonReverseEvAwake11
namespace Go.Proofs.Ytccinkbneimmhaa.Pure
open Go.RowKit Go.Proofs.Ytccinkbneimmhaa.PPolygonReverse Go.Proofs.YtccinkbneimmhaaW.PrintWords Go.Proofs.YtccinkbneimmhaaW.PrintLast Geo
theorem PolygonReverse : garmentlaw11_PolygonReverse.Pure := by
  intro l q _ _
  refine Evt.ex ?_
  unfold garmentlaw11_PolygonReverse.f garmentlaw11_few.f
  refine Evt.bindc rfl ?_
  by_cases h : (l.length : Int) ≤ 50
  · refine Evt.pos (by simpa using h) ?_
    refine Evt.bind (reversed_ev l (by omega)) (Evt.bind (where_ev l q.f0 q.f1) (Evt.bind (where_ev l.reverse q.f0 q.f1) (Evt.bind (check_ev l.reverse) (Evt.bind (check_ev l) ?_))))
    have b := areaE_bound (pts l)
    rw [pts_rev, chk_rev, where_rev]
    refine Evt.pos rfl (Evt.bind (Area2_ev l.reverse) (Evt.bind (Area2_ev l) ?_))
    rw [pts_rev, areaE_rev, wr (by omega) (by omega)]
    exact Evt.pos rfl (Evt.pos rfl (Evt.pos rfl awake_end))
  · exact Evt.neg (by simpa using h) awake_end
end Go.Proofs.Ytccinkbneimmhaa.Pure
