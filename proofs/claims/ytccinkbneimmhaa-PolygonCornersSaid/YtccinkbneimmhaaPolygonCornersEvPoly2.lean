/- The program's area and position of a point, as printed, answer what P11 says. -/
import Derived.Test.YtccinkbneimmhaaPPolygonCornersx0
import Derived.Test.YtccinkbneimmhaaPPolygonCornersx1
import Derived.Test.YtccinkbneimmhaaPPolygonCornersx2
import Derived.Test.YtccinkbneimmhaaPPolygonCornersx3
import Derived.Test.YtccinkbneimmhaaPPolygonCornersx4
import Derived.Test.YtccinkbneimmhaaPPolygonCornersx5
import Derived.Test.YtccinkbneimmhaaPPolygonCornersx6
import Derived.Test.YtccinkbneimmhaaPPolygonCornersx7
import Derived.Test.YtccinkbneimmhaaPPolygonCornersx8
import Derived.Test.YtccinkbneimmhaaPPolygonCornersx9
import Derived.Test.YtccinkbneimmhaaPPolygonCornersx10
import Derived.Test.YtccinkbneimmhaaPPolygonCornersx11
import Derived.Test.YtccinkbneimmhaaPPolygonCornersx12
import Derived.Test.YtccinkbneimmhaaPPolygonCornersx13
import Derived.Test.YtccinkbneimmhaaPPolygonCornersx14
import Derived.Test.YtccinkbneimmhaaPolygonCornersEvPoly
import Derived.Test.YtccinkbneimmhaaP11
namespace Go.Proofs.Ytccinkbneimmhaa.PPolygonCorners
open Go.RowKit Go.Proofs.YtccinkbneimmhaaW.PrintWords Go.Proofs.YtccinkbneimmhaaW.PrintLast Geo
theorem chk0 {l : List S30} (h : chk (pts l) = 0) : l.length ≤ 40 ∧ 3 ≤ l.length ∧ l ≠ [] ∧ InsI (pts l) := by
  obtain ⟨h1, h2, h3, _⟩ := chk_ok.1 h
  rw [pts_len] at h1 h2
  exact ⟨h1, h2, by rintro rfl; simp at h2, h3⟩
open Classical in
theorem where_loop (l : List S30) (hl : l.length ≤ 40) (hne : l ≠ []) (hi : InsI (pts l)) (q0 q1 : Int) (hq0 : insI q0) (hq1 : insI q1) (d : Nat) : ∀ i : Nat, i + d = l.length →
    (∀ j, j < i → ¬ BetI (nth (pts l) j) (nth (pts l) (j + 1)) (q0, q1)) → 
    Evt (fun k => polygon_Where.l0 k (sumN (fun j => wsd (nth (pts l) j) (nth (pts l) (j + 1)) (q0, q1)) i) (sidesL l) ((sidesL l).length : Int) (i : Int) q0 q1) (posI (pts l) (q0, q1), 0) := by
  have hp : pts l ≠ [] := by intro e; have := congrArg List.length e; rw [pts_len] at this; exact hne (List.length_eq_zero_iff.1 this)
  have hb : ∀ i, i ≤ 40 → -40 ≤ sumN (fun j => wsd (nth (pts l) j) (nth (pts l) (j + 1)) (q0, q1)) i ∧ sumN (fun j => wsd (nth (pts l) j) (nth (pts l) (j + 1)) (q0, q1)) i ≤ 40 := fun i hi => by
    have := sumN_bound (f := fun j => wsd (nth (pts l) j) (nth (pts l) (j + 1)) (q0, q1)) (B := 1) (n := i) (fun j _ => by unfold wsd; split <;> (try split) <;> omega)
    omega
  induction d with
  | zero =>
    intro i h hon
    refine Evt.succ ?_
    simp only [polygon_Where.l0, sidesL_len]
    refine Evt.neg (by omega) ?_
    have hno : ¬ OnI (pts l) (q0, q1) := fun ⟨j, hj, hb⟩ => hon j (by rw [pts_len] at hj; omega) hb
    have hw : sumN (fun j => wsd (nth (pts l) j) (nth (pts l) (j + 1)) (q0, q1)) i = wndI (pts l) (q0, q1) := by unfold wndI; rw [pts_len, show l.length = i by omega]
    rw [hw]
    have hpos : posI (pts l) (q0, q1) = if wndI (pts l) (q0, q1) = 0 then -1 else 1 := by unfold posI; rw [if_pos ⟨hq0, hq1⟩, if_neg hno]
    rw [hpos]
    by_cases h0 : wndI (pts l) (q0, q1) = 0
    · refine Evt.pos h0 (Evt.cast ?_ (Evt.ret _)); rw [if_pos h0]
    · refine Evt.neg h0 (Evt.cast ?_ (Evt.ret _)); rw [if_neg h0]
  | succ d ih =>
    intro i h hon
    have hil : i < l.length := by omega
    have b := hb i (by omega)
    obtain ⟨e0, e1⟩ := side_nth hne hil
    have i0 := ins_nth hi hp i
    have i1 := ins_nth hi hp (i + 1)
    have s2 : sumN (fun j => wsd (nth (pts l) j) (nth (pts l) (j + 1)) (q0, q1)) (i + 1) = sumN (fun j => wsd (nth (pts l) j) (nth (pts l) (j + 1)) (q0, q1)) i + wsd (nth (pts l) i) (nth (pts l) (i + 1)) (q0, q1) := rfl
    refine Evt.succ ?_
    simp only [polygon_Where.l0]
    refine Evt.pos (by rw [sidesL_len]; omega) (Evt.pos (by omega) (Evt.pos (by rw [sidesL_len]; omega) ?_))
    simp only [rd_side l hil, fst_of e0, fst_of e1, snd_of e0, snd_of e1]
    refine Evt.bindc (holds_eq i0.1 i0.2 i1.1 i1.2 hq0 hq1) ?_
    by_cases hB : BetI (nth (pts l) i) (nth (pts l) (i + 1)) (q0, q1)
    · refine Evt.pos (tb_true hB) (Evt.cast ?_ (Evt.ret _))
      unfold posI
      rw [if_pos ⟨hq0, hq1⟩, if_pos ⟨i, by rw [pts_len]; exact hil, hB⟩]
    refine Evt.neg (by rw [show tb _ = false from tb_false hB]; simp) (Evt.bindc (turn_eq i0.1 i0.2 i1.1 i1.2 hq0 hq1) ?_)
    have next := ih (i + 1) (by omega) (fun j hj => by
      rcases Nat.lt_succ_iff_lt_or_eq.1 hj with hj | rfl
      · exact hon j hj
      · exact hB)
    rw [s2] at next
    generalize nth (pts l) i = p at *
    generalize nth (pts l) (i + 1) = r at *
    generalize sumN (fun j => wsd (nth (pts l) j) (nth (pts l) (j + 1)) (q0, q1)) i = S at *
    have join : ∀ c : Bool, (c = true ↔ (p.2 ≤ q1 ∧ r.2 > q1 ∧ crI p r (q0, q1) > 0)) → Evt (fun k => polygon_Where.j2 k S (crI p r (q0, q1)) (sidesL l) ((sidesL l).length : Int) (i : Int) c q0 q1 p.1 p.2 r.1 r.2) (posI (pts l) (q0, q1), 0) := by
      intro c hc
      refine Evt.succ ?_
      simp only [polygon_Where.j2]
      rw [wr1 (by omega)]
      by_cases h1 : c = true
      · have hc1 := hc.1 h1
        refine Evt.pos h1 ?_
        have e : wsd p r (q0, q1) = 1 := by unfold wsd; rw [if_pos hc1]
        rw [wr (by omega) (by omega)]
        rw [e] at next
        exact next
      · have hc1 : ¬ (p.2 ≤ q1 ∧ r.2 > q1 ∧ crI p r (q0, q1) > 0) := fun hh => h1 (hc.2 hh)
        refine Evt.neg h1 ?_
        by_cases h2 : p.2 > q1
        · refine Evt.pos h2 ?_
          by_cases h3 : r.2 ≤ q1
          · refine Evt.pos h3 ?_
            by_cases h4 : crI p r (q0, q1) < 0
            · refine Evt.pos h4 ?_
              have e : wsd p r (q0, q1) = -1 := by unfold wsd; rw [if_neg hc1, if_pos ⟨h2, h3, h4⟩]
              rw [wr (by omega) (by omega)]
              rw [e] at next
              exact next
            · refine Evt.neg h4 ?_
              have e : wsd p r (q0, q1) = 0 := by unfold wsd; rw [if_neg hc1, if_neg (fun hh => h4 hh.2.2)]
              rw [e, Int.add_zero] at next
              exact next
          · refine Evt.neg h3 ?_
            have e : wsd p r (q0, q1) = 0 := by unfold wsd; rw [if_neg hc1, if_neg (fun hh => h3 hh.2.1)]
            rw [e, Int.add_zero] at next
            exact next
        · refine Evt.neg h2 ?_
          have e : wsd p r (q0, q1) = 0 := by unfold wsd; rw [if_neg hc1, if_neg (fun hh => h2 hh.1)]
          rw [e, Int.add_zero] at next
          exact next
    by_cases h1 : p.2 ≤ q1
    · refine Evt.pos h1 ?_
      by_cases h2 : r.2 > q1
      · refine Evt.pos h2 (join _ ?_)
        simp [h1, h2]
      · refine Evt.neg h2 (join _ ?_)
        simp [h2]
    · refine Evt.neg h1 (join _ ?_)
      simp [h1]
theorem where_ev (l : List S30) (q0 q1 : Int) : Evt (fun k => polygon_Where.f k l q0 q1) (whereI (pts l) (q0, q1)) := by
  unfold polygon_Where.f
  refine Evt.bind (check_ev l) ?_
  unfold whereI
  by_cases h : chk (pts l) = 0
  · obtain ⟨h1, _, h3, h4⟩ := chk0 h
    rw [if_pos h]
    refine Evt.pos h (Evt.bindc (inside_eq q0) ?_)
    by_cases hq0 : insI q0
    · refine Evt.pos (by simpa using hq0) (Evt.bindc (inside_eq q1) ?_)
      refine Evt.succ ?_
      simp only [polygon_Where.j0]
      by_cases hq1 : insI q1
      · refine Evt.neg (by simpa using hq1) ?_
        exact Evt.bind (sides_ev l (by omega)) (where_loop l h1 h3 h4 q0 q1 hq0 hq1 l.length 0 (by omega) (fun j hj => absurd hj (by omega)))
      · refine Evt.pos (by simpa using hq1) (Evt.cast ?_ (Evt.ret _))
        unfold posI; rw [if_neg (fun hh => hq1 hh.2)]
    · refine Evt.neg (by simpa using hq0) ?_
      refine Evt.succ ?_
      simp only [polygon_Where.j0]
      refine Evt.pos trivial (Evt.cast ?_ (Evt.ret _))
      unfold posI; rw [if_neg (fun hh => hq0 hh.1)]
  · rw [if_neg h]
    exact Evt.neg h (Evt.ret _)
end Go.Proofs.Ytccinkbneimmhaa.PPolygonCorners
