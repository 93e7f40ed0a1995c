/- Moving a polygon moves its box and the positions of points, and keeps its area: the statement over numbers and lists, for every input. -/
import Derived.Test.YtccinkbneimmhaaPPolygonMovesx0
import Derived.Test.YtccinkbneimmhaaPPolygonMovesx1
import Derived.Test.YtccinkbneimmhaaPPolygonMovesx2
import Derived.Test.YtccinkbneimmhaaPPolygonMovesx3
import Derived.Test.YtccinkbneimmhaaPPolygonMovesx4
import Derived.Test.YtccinkbneimmhaaPPolygonMovesx5
import Derived.Test.YtccinkbneimmhaaPPolygonMovesx6
import Derived.Test.YtccinkbneimmhaaPPolygonMovesx7
import Derived.Test.YtccinkbneimmhaaPPolygonMovesx8
import Derived.Test.YtccinkbneimmhaaPPolygonMovesx9
import Derived.Test.YtccinkbneimmhaaPPolygonMovesx10
import Derived.Test.YtccinkbneimmhaaPPolygonMovesx11
import Derived.Test.YtccinkbneimmhaaPPolygonMovesx12
import Derived.Test.YtccinkbneimmhaaPPolygonMovesx13
import Derived.Test.YtccinkbneimmhaaPPolygonMovesx14
import Derived.Test.YtccinkbneimmhaaPolygonMovesEvAwake11
import Derived.Test.YtccinkbneimmhaaPolygonMovesEvMove11
namespace Go.Proofs.Ytccinkbneimmhaa.Pure
open Go.RowKit Go.Proofs.Ytccinkbneimmhaa.PPolygonMoves Go.Proofs.YtccinkbneimmhaaW.PrintWords Go.Proofs.YtccinkbneimmhaaW.PrintLast Geo
theorem PolygonMoves : garmentlaw11_PolygonMoves.Pure := by
  intro l d q _ _ _
  refine Evt.ex ?_
  unfold garmentlaw11_PolygonMoves.f garmentlaw11_few.f
  refine Evt.bindc rfl ?_
  have out : Evt (fun k => garmentlaw11_PolygonMoves.j0 k l true d.f0 d.f1 q.f0 q.f1) true := by
    refine Evt.succ ?_
    simp only [garmentlaw11_PolygonMoves.j0]
    exact Evt.pos trivial awake_end
  by_cases h : (l.length : Int) ≤ 50
  rotate_left
  · exact Evt.neg (by simpa using h) out
  refine Evt.pos (by simpa using h) (Evt.bindc (within11 d.f0 d.f1) ?_)
  by_cases hd : insI d.f0 ∧ insI d.f1
  rotate_left
  · exact Evt.neg (by rw [tb_false hd]; simp) out
  refine Evt.pos (tb_true hd) (Evt.bindc (within11 q.f0 q.f1) ?_)
  by_cases hq : insI q.f0 ∧ insI q.f1
  rotate_left
  · exact Evt.neg (by rw [tb_false hq]; simp) out
  refine Evt.pos (tb_true hq) (Evt.bind (check_ev l) ?_)
  by_cases hc : chk (pts l) = 0
  rotate_left
  · have : (chk (pts l) != 0) = true := by simpa using hc
    rw [this]
    exact out
  rw [hc]
  refine Evt.succ ?_
  simp only [garmentlaw11_PolygonMoves.j0]
  obtain ⟨h1, h2, hne, hin⟩ := chk0 hc
  have hP : pts l ≠ [] := by intro e; have := congrArg List.length e; rw [pts_len] at this; exact hne (List.length_eq_zero_iff.1 this)
  have ep : pts (movL l d.f0 d.f1) = mvI (d.f0, d.f1) (pts l) := mov_pts hin hd.1 hd.2
  refine Evt.neg (by simp) (Evt.bind (move_ev l d.f0 d.f1 (by omega)) (Evt.bind (check_ev (movL l d.f0 d.f1)) ?_))
  rw [ep]
  rcases chk_mv (d := (d.f0, d.f1)) hc with hm | hm
  rotate_left
  · rw [hm]
    refine Evt.neg (by omega) (Evt.bind (check_ev (movL l d.f0 d.f1)) ?_)
    rw [ep, hm]
    exact Evt.pos rfl awake_end
  rw [hm]
  have wq : wrap64 (q.f0 + d.f0) = q.f0 + d.f0 ∧ wrap64 (q.f1 + d.f1) = q.f1 + d.f1 := by
    unfold insI at hd hq
    exact ⟨wr (by omega) (by omega), wr (by omega) (by omega)⟩
  refine Evt.pos rfl (Evt.bind (box_ev l) (Evt.bind (box_ev (movL l d.f0 d.f1)) (Evt.bind (where_ev l q.f0 q.f1) (Evt.bind (where_ev (movL l d.f0 d.f1) (wrap64 (q.f0 + d.f0)) (wrap64 (q.f1 + d.f1))) ?_))))
  rw [wq.1, wq.2, ep]
  obtain ⟨b1, b2, b3, b4⟩ := box_mv (d := (d.f0, d.f1)) hP
  obtain ⟨i1, i2, i3, i4⟩ := min_in hP hin
  have hpos : posI (mvI (d.f0, d.f1) (pts l)) (q.f0 + d.f0, q.f1 + d.f1) = posI (pts l) (q.f0, q.f1) := pos_mv (d := (d.f0, d.f1)) (q := (q.f0, q.f1)) hc hm hq
  unfold whereI boxI
  rw [if_pos hc, if_pos hm, if_pos hc, if_pos hm, hpos]
  simp only [b1, b2, b3, b4]
  refine Evt.pos trivial (Evt.pos trivial (Evt.pos trivial ?_))
  refine Evt.succ ?_
  simp only [garmentlaw11_PolygonMoves.j1]
  refine Evt.neg (by simp) (Evt.pos ?_ (Evt.pos trivial (Evt.bind (Area2_ev (movL l d.f0 d.f1)) (Evt.bind (Area2_ev l) ?_))))
  · unfold insI at hd i1 i2 i3 i4
    rw [wr (x := minX (pts l) + d.f0) (by omega) (by omega), wr (x := minY (pts l) + d.f1) (by omega) (by omega)]
    simp only [beq_self_eq_true, Bool.true_and, beq_iff_eq, Bool.and_eq_true]
    omega
  · rw [ep]
    have e : areaE (mvI (d.f0, d.f1) (pts l)) = areaE (pts l) := by unfold areaE; rw [if_pos hc, if_pos hm, area_mv hP]
    rw [e]
    exact Evt.pos rfl awake_end
end Go.Proofs.Ytccinkbneimmhaa.Pure
