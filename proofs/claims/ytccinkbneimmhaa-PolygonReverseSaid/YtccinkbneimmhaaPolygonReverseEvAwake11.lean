/- Chapter 11: the examples, and lists in the opposite order. -/
import Derived.Test.YtccinkbneimmhaaPPolygonReversex0
import Derived.Test.YtccinkbneimmhaaPPolygonReversex1
import Derived.Test.YtccinkbneimmhaaPPolygonReversex2
import Derived.Test.YtccinkbneimmhaaPPolygonReversex3
import Derived.Test.YtccinkbneimmhaaPPolygonReversex4
import Derived.Test.YtccinkbneimmhaaPPolygonReversex5
import Derived.Test.YtccinkbneimmhaaPPolygonReversex6
import Derived.Test.YtccinkbneimmhaaPPolygonReversex7
import Derived.Test.YtccinkbneimmhaaPPolygonReversex8
import Derived.Test.YtccinkbneimmhaaPPolygonReversex9
import Derived.Test.YtccinkbneimmhaaPPolygonReversex10
import Derived.Test.YtccinkbneimmhaaPPolygonReversex11
import Derived.Test.YtccinkbneimmhaaPPolygonReversex12
import Derived.Test.YtccinkbneimmhaaPPolygonReversex13
import Derived.Test.YtccinkbneimmhaaPolygonReverseEvPoly2
namespace Go.Proofs.Ytccinkbneimmhaa.PPolygonReverse
open Go.RowKit Go.Proofs.YtccinkbneimmhaaW.PrintWords Go.Proofs.YtccinkbneimmhaaW.PrintLast Geo
theorem awake_ev : Evt (fun k => garmentlaw11_awake.f k) true := by
  have h : garmentlaw11_awake.f 100 = some true := by decide +kernel
  refine ⟨100, fun k hk => ?_⟩
  obtain ⟨d, rfl⟩ : ∃ d, k = 100 + d := ⟨k - 100, by omega⟩
  clear hk
  induction d with
  | zero => exact h
  | succ d ih => exact garmentlaw11_awake.mono _ _ ih
theorem awake_end : Evt (fun k => (garmentlaw11_awake.f k).bind fun t => some t) true := Evt.bind awake_ev (Evt.ret _)
--REV
theorem rev_loop (l : List S30) (m : Nat) : ∀ acc : List S30, m ≤ l.length → acc.length + m ≤ 1000000 → Evt (fun k => garmentref11_Reversed.l0 k l acc ((m : Int) - 1)) (acc ++ (l.take m).reverse) := by
  induction m with
  | zero =>
    intro acc h h2
    refine Evt.succ ?_
    simp only [garmentref11_Reversed.l0]
    refine Evt.neg (by omega) (Evt.cast ?_ (Evt.ret _))
    simp
  | succ m ih =>
    intro acc h h2
    refine Evt.succ ?_
    simp only [garmentref11_Reversed.l0]
    refine Evt.pos (by omega) (Evt.pos (by omega) (Evt.pos (by omega) (Evt.pos (by omega) ?_)))
    have e : ((m + 1 : Nat) : Int) - 1 = (m : Int) := by omega
    have er : rd_T30 l (m : Int) = l[m] := by unfold rd_T30; simp [List.getD, show m < l.length by omega]
    simp only [e, er]
    rw [wr (x := (m : Int) - 1) (by omega) (by omega)]
    refine Evt.cast ?_ (ih _ (by omega) (by rw [List.length_append]; simp; omega))
    rw [List.take_succ_eq_append_getElem (by omega), List.reverse_append, List.append_assoc]
    rfl
theorem reversed_ev (l : List S30) (hl : l.length ≤ 1000000) : Evt (fun k => garmentref11_Reversed.f k l) l.reverse := by
  unfold garmentref11_Reversed.f
  rw [wr (by omega) (by omega)]
  refine Evt.cast ?_ (rev_loop l l.length [] (Nat.le_refl _) (by simpa using hl))
  simp
theorem pts_rev (l : List S30) : pts l.reverse = (pts l).reverse := by unfold pts; rw [List.map_reverse]
--ENDREV
theorem areaE_bound (P : List IP) : -175921860444160 ≤ areaE P ∧ areaE P ≤ 175921860444160 := by
  unfold areaE
  by_cases h : chk P = 0
  · obtain ⟨h1, h2, h3, _⟩ := chk_ok.1 h
    rw [if_pos h]
    have := area_part h3 (by rintro rfl; simp at h2) h1
    unfold areaI
    omega
  · rw [if_neg h]; omega
end Go.Proofs.Ytccinkbneimmhaa.PPolygonReverse
