/- Vertices lie on the boundary, and the box is the smallest one: the statement over numbers and lists, for every input. -/
import Derived.Test.YtccinkbneimmhaaPPolygonCornersx0
import Derived.Test.YtccinkbneimmhaaPPolygonCornersx1
import Derived.Test.YtccinkbneimmhaaPPolygonCornersx2
import Derived.Test.YtccinkbneimmhaaPPolygonCornersx3
import Derived.Test.YtccinkbneimmhaaPPolygonCornersx4
import Derived.Test.YtccinkbneimmhaaPPolygonCornersx5
import Derived.Test.YtccinkbneimmhaaPPolygonCornersx6
import Derived.Test.YtccinkbneimmhaaPPolygonCornersx7
import Derived.Test.YtccinkbneimmhaaPPolygonCornersx8
import Derived.Test.YtccinkbneimmhaaPPolygonCornersx9
import Derived.Test.YtccinkbneimmhaaPPolygonCornersx10
import Derived.Test.YtccinkbneimmhaaPPolygonCornersx11
import Derived.Test.YtccinkbneimmhaaPPolygonCornersx12
import Derived.Test.YtccinkbneimmhaaPPolygonCornersx13
import Derived.Test.YtccinkbneimmhaaPPolygonCornersx14
import Derived.Test.YtccinkbneimmhaaPolygonCornersEvAwake11
import Derived.Test.YtccinkbneimmhaaP11b
namespace Go.Proofs.Ytccinkbneimmhaa.Pure
open Go.RowKit Go.Proofs.Ytccinkbneimmhaa.PPolygonCorners Go.Proofs.YtccinkbneimmhaaW.PrintWords Go.Proofs.YtccinkbneimmhaaW.PrintLast Geo
theorem corners_loop (l : List S30) (q0 q1 : Int) (hc : chk (pts l) = 0) (d : Nat) : ∀ (i : Nat) (x y z w : Bool), i + d = l.length →
    (x = true ∨ ∃ s ∈ (pts l).drop i, s.1 = minX (pts l)) → (y = true ∨ ∃ s ∈ (pts l).drop i, s.1 = maxX (pts l)) →
    (z = true ∨ ∃ s ∈ (pts l).drop i, s.2 = minY (pts l)) → (w = true ∨ ∃ s ∈ (pts l).drop i, s.2 = maxY (pts l)) →
    Evt (fun k => garmentlaw11_PolygonCorners.l0 k l x y z w (i : Int) q0 q1 (minX (pts l)) (minY (pts l)) (maxX (pts l) - minX (pts l)) (maxY (pts l) - minY (pts l))) true := by
  obtain ⟨h1, h2, hne, hin⟩ := chk0 hc
  have hP : pts l ≠ [] := by intro e; have := congrArg List.length e; rw [pts_len] at this; exact hne (List.length_eq_zero_iff.1 this)
  obtain ⟨i1, i2, i3, i4⟩ := min_in hP hin
  have a1 := (minX_spec hP).1
  have a2 := (maxX_spec hP).1
  have a3 := (minY_spec hP).1
  have a4 := (maxY_spec hP).1
  unfold insI at i1 i2 i3 i4
  induction d with
  | zero =>
    intro i x y z w hi hx hy hz hw
    have dn : (pts l).drop i = [] := List.drop_of_length_le (by rw [pts_len]; omega)
    rw [dn] at hx hy hz hw
    have no : ∀ {b : Bool} {p : IP → Prop}, (b = true ∨ ∃ s ∈ ([] : List IP), p s) → b = true := by
      rintro b p (h | ⟨s, hs, _⟩)
      · exact h
      · simp at hs
    obtain rfl := no hx
    obtain rfl := no hy
    obtain rfl := no hz
    obtain rfl := no hw
    refine Evt.succ ?_
    simp only [garmentlaw11_PolygonCorners.l0]
    refine Evt.neg (by omega) (Evt.bind (where_ev l q0 q1) ?_)
    have ew : (whereI (pts l) (q0, q1)).2 = 0 := by unfold whereI; rw [if_pos hc]
    have eo : (q0 < minX (pts l) ∨ maxX (pts l) < q0 ∨ q1 < minY (pts l) ∨ maxY (pts l) < q1) → (whereI (pts l) (q0, q1)).1 = -1 := fun h => by unfold whereI; rw [if_pos hc]; exact pos_out hP h
    rw [wr (x := minX (pts l) + (maxX (pts l) - minX (pts l))) (by omega) (by omega), wr (x := minY (pts l) + (maxY (pts l) - minY (pts l))) (by omega) (by omega)]
    by_cases c1 : q0 < minX (pts l)
    · exact Evt.pos c1 (Evt.pos trivial (Evt.pos trivial (Evt.pos trivial (Evt.pos trivial (Evt.pos ew (Evt.pos (eo (by omega)) awake_end))))))
    refine Evt.neg c1 ?_
    by_cases c2 : q0 > minX (pts l) + (maxX (pts l) - minX (pts l))
    · exact Evt.pos c2 (Evt.pos trivial (Evt.pos trivial (Evt.pos trivial (Evt.pos trivial (Evt.pos ew (Evt.pos (eo (by omega)) awake_end))))))
    refine Evt.neg c2 ?_
    by_cases c3 : q1 < minY (pts l)
    · exact Evt.pos c3 (Evt.pos trivial (Evt.pos trivial (Evt.pos trivial (Evt.pos trivial (Evt.pos ew (Evt.pos (eo (by omega)) awake_end))))))
    refine Evt.neg c3 (Evt.pos trivial (Evt.pos trivial (Evt.pos trivial (Evt.pos trivial (Evt.pos ew ?_)))))
    by_cases c4 : q1 > minY (pts l) + (maxY (pts l) - minY (pts l))
    · exact Evt.pos c4 (Evt.pos (eo (by omega)) awake_end)
    · exact Evt.neg c4 awake_end
  | succ d ih =>
    intro i x y z w hi hx hy hz hw
    have hil : i < l.length := by omega
    have hpl : i < (pts l).length := by rw [pts_len]; exact hil
    have es : (pts l)[i] ∈ pts l := List.getElem_mem hpl
    have b1 := a1 _ es
    have b2 := a2 _ es
    have b3 := a3 _ es
    have b4 := a4 _ es
    have e0 : (rd_T30 l (i : Int)).f0 = ((pts l)[i]).1 := by rw [rd_f0, Int.toNat_natCast, getD_at hpl]
    have e1 : (rd_T30 l (i : Int)).f1 = ((pts l)[i]).2 := by rw [rd_f1, Int.toNat_natCast, getD_at hpl]
    rw [List.drop_eq_getElem_cons hpl] at hx hy hz hw
    have hw1 := where_ev l ((pts l)[i]).1 ((pts l)[i]).2
    have hw2 : whereI (pts l) (((pts l)[i]).1, ((pts l)[i]).2) = (0, 0) := by unfold whereI; rw [if_pos hc, pos_vertex hin es]
    rw [hw2] at hw1
    generalize (pts l)[i] = s at *
    refine Evt.succ ?_
    simp only [garmentlaw11_PolygonCorners.l0]
    refine Evt.pos (by omega) (Evt.pos (by omega) ?_)
    simp only [e0, e1]
    refine Evt.bind hw1 (Evt.pos rfl (Evt.pos rfl ?_))
    rw [wr (x := s.1 - minX (pts l)) (by omega) (by omega), wr (x := s.2 - minY (pts l)) (by omega) (by omega), wr1 (by omega)]
    refine Evt.neg (by omega) (Evt.neg (by omega) (Evt.neg (by omega) (Evt.neg (by omega) ?_)))
    have step : ∀ {b : Bool} {f : IP → Int} {m : Int} {c : Bool}, (c = true ↔ f s = m) → (b = true ∨ ∃ t ∈ s :: (pts l).drop (i + 1), f t = m) → ((b || c) = true ∨ ∃ t ∈ (pts l).drop (i + 1), f t = m) := by
      rintro b f m c hcm (h | ⟨t, ht, e⟩)
      · left; rw [h]; rfl
      · rcases List.mem_cons.1 ht with rfl | ht
        · left; rw [hcm.2 e]; simp
        · exact Or.inr ⟨t, ht, e⟩
    have next := ih (i + 1) (x || (s.1 - minX (pts l) == 0)) (y || (s.1 - minX (pts l) == maxX (pts l) - minX (pts l))) (z || (s.2 - minY (pts l) == 0)) (w || (s.2 - minY (pts l) == maxY (pts l) - minY (pts l))) (by omega)
      (step (f := (·.1)) (by rw [beq_iff_eq]; omega) hx) (step (f := (·.1)) (by rw [beq_iff_eq]; omega) hy) (step (f := (·.2)) (by rw [beq_iff_eq]; omega) hz) (step (f := (·.2)) (by rw [beq_iff_eq]; omega) hw)
    revert next
    cases x <;> cases y <;> cases z <;> cases w <;> simp only [Bool.true_or, Bool.false_or, Bool.false_eq_true, if_true, if_false] <;> exact id
theorem PolygonCorners : garmentlaw11_PolygonCorners.Pure := by
  intro l q _ _
  refine Evt.ex ?_
  unfold garmentlaw11_PolygonCorners.f
  refine Evt.bind (box_ev l) (Evt.bindc (show garmentlaw11_few.f l = some _ from rfl) ?_)
  by_cases h : (l.length : Int) ≤ 50
  · refine Evt.pos (by simpa using h) (Evt.succ ?_)
    simp only [garmentlaw11_PolygonCorners.j0]
    unfold boxI
    by_cases hc : chk (pts l) = 0
    · rw [if_pos hc]
      refine Evt.neg (by simp) ?_
      obtain ⟨h1, h2, hne, hin⟩ := chk0 hc
      have hP : pts l ≠ [] := by intro e; have := congrArg List.length e; rw [pts_len] at this; exact hne (List.length_eq_zero_iff.1 this)
      obtain ⟨_, s1, m1, g1⟩ := minX_spec hP
      obtain ⟨_, s2, m2, g2⟩ := maxX_spec hP
      obtain ⟨_, s3, m3, g3⟩ := minY_spec hP
      obtain ⟨_, s4, m4, g4⟩ := maxY_spec hP
      exact corners_loop l q.f0 q.f1 hc l.length 0 false false false false (by omega) (Or.inr ⟨s1, m1, g1.symm⟩) (Or.inr ⟨s2, m2, g2.symm⟩) (Or.inr ⟨s3, m3, g3.symm⟩) (Or.inr ⟨s4, m4, g4.symm⟩)
    · rw [if_neg hc]
      refine Evt.pos (by simpa using hc) (Evt.bindc (show garmentlaw11_few.f l = some _ from rfl) (Evt.pos (by simpa using h) (Evt.bind (check_ev l) (Evt.pos rfl (Evt.pos rfl awake_end)))))
  · refine Evt.neg (by simpa using h) (Evt.succ ?_)
    simp only [garmentlaw11_PolygonCorners.j0]
    exact Evt.pos trivial (Evt.bindc (show garmentlaw11_few.f l = some _ from rfl) (Evt.neg (by simpa using h) awake_end))
end Go.Proofs.Ytccinkbneimmhaa.Pure
