/- Chapter 11: moved polygons, numbers within limits. -/
import Derived.Test.YtccinkbneimmhaaPPolygonMovesx0
import Derived.Test.YtccinkbneimmhaaPPolygonMovesx1
import Derived.Test.YtccinkbneimmhaaPPolygonMovesx2
import Derived.Test.YtccinkbneimmhaaPPolygonMovesx3
import Derived.Test.YtccinkbneimmhaaPPolygonMovesx4
import Derived.Test.YtccinkbneimmhaaPPolygonMovesx5
import Derived.Test.YtccinkbneimmhaaPPolygonMovesx6
import Derived.Test.YtccinkbneimmhaaPPolygonMovesx7
import Derived.Test.YtccinkbneimmhaaPPolygonMovesx8
import Derived.Test.YtccinkbneimmhaaPPolygonMovesx9
import Derived.Test.YtccinkbneimmhaaPPolygonMovesx10
import Derived.Test.YtccinkbneimmhaaPPolygonMovesx11
import Derived.Test.YtccinkbneimmhaaPPolygonMovesx12
import Derived.Test.YtccinkbneimmhaaPPolygonMovesx13
import Derived.Test.YtccinkbneimmhaaPPolygonMovesx14
import Derived.Test.YtccinkbneimmhaaPolygonMovesEvPoly2
import Derived.Test.YtccinkbneimmhaaP11b
namespace Go.Proofs.Ytccinkbneimmhaa.PPolygonMoves
open Go.RowKit Go.Proofs.YtccinkbneimmhaaW.PrintWords Go.Proofs.YtccinkbneimmhaaW.PrintLast Geo
def movL (l : List S30) (d0 d1 : Int) : List S30 := l.map (fun s => ⟨wrap64 (s.f0 + d0), wrap64 (s.f1 + d1)⟩)
theorem rd_at (l : List S30) {i : Nat} (h : i < l.length) : rd_T30 l (i : Int) = l[i] := by unfold rd_T30; simp [List.getD, h]
theorem move_loop (l : List S30) (d0 d1 : Int) (hl : l.length ≤ 1000000) (d : Nat) : ∀ i : Nat, i + d = l.length →
    Evt (fun k => polygon_Move.l0 k ((movL l d0 d1).take i) l (l.length : Int) (i : Int) d0 d1) (movL l d0 d1) := by
  have hL : (movL l d0 d1).length = l.length := by simp [movL]
  induction d with
  | zero =>
    intro i h
    refine Evt.succ ?_
    simp only [polygon_Move.l0]
    refine Evt.neg (by omega) (Evt.cast ?_ (Evt.ret _))
    exact List.take_of_length_le (by omega)
  | succ d ih =>
    intro i h
    refine Evt.succ ?_
    simp only [polygon_Move.l0]
    refine Evt.pos (by omega) (Evt.pos (by omega) (Evt.pos (by omega) (Evt.pos (by rw [List.length_take]; omega) ?_)))
    rw [wr1 (by omega)]
    have := ih (i + 1) (by omega)
    rw [List.take_succ_eq_append_getElem (by omega)] at this
    have e : (movL l d0 d1)[i]'(by omega) = ⟨wrap64 ((rd_T30 l (i : Int)).f0 + d0), wrap64 ((rd_T30 l (i : Int)).f1 + d1)⟩ := by
      rw [rd_at l (show i < l.length by omega)]
      simp [movL]
    rw [e] at this
    exact this
theorem move_ev (l : List S30) (d0 d1 : Int) (hl : l.length ≤ 1000000) : Evt (fun k => polygon_Move.f k l d0 d1) (movL l d0 d1) := by
  unfold polygon_Move.f
  exact Evt.pos (by omega) (Evt.pos (by omega) (move_loop l d0 d1 hl l.length 0 (by omega)))
theorem mov_pts {l : List S30} {d0 d1 : Int} (h : InsI (pts l)) (h0 : insI d0) (h1 : insI d1) : pts (movL l d0 d1) = mvI (d0, d1) (pts l) := by
  unfold pts movL mvI
  rw [List.map_map, List.map_map]
  refine List.map_congr_left (fun s hs => ?_)
  have := h (pt s) (List.mem_map.2 ⟨s, hs, rfl⟩)
  unfold pt insI at *
  simp only [Function.comp, mvp]
  simp only at this
  rw [wr (by omega) (by omega), wr (by omega) (by omega)]
--WITHIN
theorem within11 (a b : Int) : garmentref11_Within.f a b 1048576 = some (tb (insI a ∧ insI b)) := by
  unfold garmentref11_Within.f insI
  rw [show wrap64 (-1048576) = -1048576 from wr (by omega) (by omega)]
  by_cases h1 : a ≥ -1048576
  · rw [if_pos h1]
    by_cases h2 : a ≤ 1048576
    · rw [if_pos h2]
      by_cases h3 : b ≥ -1048576
      · rw [if_pos h3, tb_dec]; congr 1; apply tb_congr; omega
      · rw [if_neg h3, tb_false (by omega)]
    · rw [if_neg h2, tb_false (by omega)]
  · rw [if_neg h1, tb_false (by omega)]
end Go.Proofs.Ytccinkbneimmhaa.PPolygonMoves
