/- The beginning of a zone rises along the marker and falls with more polygons: the statement over numbers and lists, for every input. -/
import Derived.Test.YtakefijfdgpdoaaPSpliceRisesx0
import Derived.Test.YtakefijfdgpdoaaPSpliceRisesx1
import Derived.Test.YtakefijfdgpdoaaPSpliceRisesx2
import Derived.Test.YtakefijfdgpdoaaPSpliceRisesx3
import Derived.Test.YtakefijfdgpdoaaPSpliceRisesx4
import Derived.Test.YtakefijfdgpdoaaPSpliceRisesx5
import Derived.Test.YtakefijfdgpdoaaPSpliceRisesx6
import Derived.Test.YtakefijfdgpdoaaPSpliceRisesx7
import Derived.Test.YtakefijfdgpdoaaPSpliceRisesx8
import Derived.Test.YtakefijfdgpdoaaPSpliceRisesx9
import Derived.Test.YtakefijfdgpdoaaPSpliceRisesx10
import Derived.Test.YtakefijfdgpdoaaPSpliceRisesx11
import Derived.Test.YtakefijfdgpdoaaSpliceRisesEvSplice
namespace Go.Proofs.Ytakefijfdgpdoaa.Pure
open Go.RowKit Go.Proofs.Ytakefijfdgpdoaa.PSpliceRises Go.Proofs.YtakefijfdgpdoaaW.PrintWords Go.Proofs.YtakefijfdgpdoaaW.PrintLast Geo

theorem awake_end : Evt (fun k => (garmentlaw37_awake.f k).bind fun t => some t) true := Evt.bind awake_ev (Evt.ret _)
--LAW
theorem SpliceRises : garmentlaw37_SpliceRises.Pure := by
  intro len l a b _ _ _ _
  apply Evt.ex (g := fun k => garmentlaw37_SpliceRises.f k len l a b)
  unfold garmentlaw37_SpliceRises.f
  have stop : Evt (fun k => garmentlaw37_SpliceRises.j0 k len l a b true) true := by
    refine Evt.succ ?_
    simp only [garmentlaw37_SpliceRises.j0]
    exact Evt.pos trivial awake_end
  have stop1 : ∀ x y, Evt (fun k => garmentlaw37_SpliceRises.j1 k len l a x y true) true := by
    intro x y
    refine Evt.succ ?_
    simp only [garmentlaw37_SpliceRises.j1]
    exact Evt.pos trivial awake_end
  obtain ⟨f, hf, hfl⟩ := few_ev l 30 (by omega)
  refine Evt.bind hf ?_
  cases f with
  | false => exact Evt.neg (by simp) stop
  | true =>
    refine Evt.pos rfl ?_
    by_cases h0 : (l.length : Int) = 0
    · exact Evt.pos h0 stop
    refine Evt.neg h0 ?_
    by_cases hab : a > b
    · rw [decide_eq_true hab]; exact stop
    rw [decide_eq_false hab]
    refine Evt.succ ?_
    simp only [garmentlaw37_SpliceRises.j0]
    refine Evt.neg (by simp) (Evt.bind (Back_ev len l a) (Evt.bind (Back_ev len l b) ?_))
    by_cases e1 : (BackI len (ptss l) a).2 = 0
    · refine Evt.pos e1 ?_
      by_cases e2 : (BackI len (ptss l) b).2 = 0
      · obtain ⟨c0, a0, a1⟩ := Back_err0 e1
        obtain ⟨_, b0, b1⟩ := Back_err0 e2
        obtain ⟨c1, c2, c3, c4⟩ := common_len c0
        have dm : ∀ P ∈ ptss (l.drop 1), P ∈ ptss l := by
          intro P hP
          obtain ⟨q, hq, rfl⟩ := List.mem_map.1 hP
          exact List.mem_map.2 ⟨q, List.mem_of_mem_drop hq, rfl⟩
        have cd : commonErr len (ptss (l.drop 1)) = 0 := by
          unfold commonErr
          rw [if_neg (by omega), if_neg (by rw [ptss_len] at *; rw [List.length_drop]; omega)]
          exact extErr_zero.2 (fun P hP => c4 P (dm P hP))
        have hbb : ((BackI len (ptss l) b).2 != 0) = false := by rw [e2]; rfl
        rw [hbb, Back_ok c0 a0 a1, Back_ok c0 b0 b1]
        simp only
        refine Evt.succ ?_
        simp only [garmentlaw37_SpliceRises.j1]
        refine Evt.neg (by simp) (Evt.pos (by omega) ?_)
        refine Evt.bind (Back_ev len (l.drop 1) a) (Evt.bind (Back_ev len l 0) (Evt.bind (Back_ev len l len) ?_))
        rw [Back_ok cd a0 a1, Back_ok c0 (by omega) (by omega), Back_ok c0 (by omega) (by omega)]
        simp only
        have x0 : ∀ z ∈ (ptss l).map zone, 0 ≤ z.1 ∧ z.2 ≤ len := by
          intro z hz
          obtain ⟨P, hP, rfl⟩ := List.mem_map.1 hz
          have := c4 P hP
          exact ⟨this.2.1, this.2.2⟩
        refine Evt.pos trivial (Evt.pos trivial (Evt.pos trivial (Evt.pos ?_ (Evt.pos ?_ (Evt.pos ?_ (Evt.pos ?_ awake_end))))))
        · rcases back_is ((ptss l).map zone) b with e | ⟨z, hz, hz2, e⟩
          · have := back_le ((ptss l).map zone) a; omega
          · have := back_zone (hi := a) hz (by omega); omega
        · rcases back_is ((ptss (l.drop 1)).map zone) a with e | ⟨z, hz, hz2, e⟩
          · have := back_le ((ptss l).map zone) a; omega
          · obtain ⟨P, hP, rfl⟩ := List.mem_map.1 hz
            have := back_zone (hi := a) (List.mem_map.2 ⟨P, dm P hP, rfl⟩ : zone P ∈ (ptss l).map zone) hz2
            omega
        · have := back_le ((ptss l).map zone) 0
          rcases back_is ((ptss l).map zone) 0 with e | ⟨z, hz, hz2, e⟩
          · omega
          · have := x0 z hz; omega
        · rcases back_is ((ptss l).map zone) len with e | ⟨z, hz, hz2, e⟩
          · exact e
          · have := x0 z hz; omega
      · have : ((BackI len (ptss l) b).2 != 0) = true := by simpa using e2
        rw [this]; exact stop1 _ _
    · exact Evt.neg e1 (stop1 _ _)
--END
end Go.Proofs.Ytakefijfdgpdoaa.Pure
