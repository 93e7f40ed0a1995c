/- A splice zone divides no polygon, and a later beginning divides one: the statement over numbers and lists, for every input. -/
import Derived.Test.YtakefijfdgpdoaaPSpliceWholex0
import Derived.Test.YtakefijfdgpdoaaPSpliceWholex1
import Derived.Test.YtakefijfdgpdoaaPSpliceWholex2
import Derived.Test.YtakefijfdgpdoaaPSpliceWholex3
import Derived.Test.YtakefijfdgpdoaaPSpliceWholex4
import Derived.Test.YtakefijfdgpdoaaPSpliceWholex5
import Derived.Test.YtakefijfdgpdoaaPSpliceWholex6
import Derived.Test.YtakefijfdgpdoaaPSpliceWholex7
import Derived.Test.YtakefijfdgpdoaaPSpliceWholex8
import Derived.Test.YtakefijfdgpdoaaPSpliceWholex9
import Derived.Test.YtakefijfdgpdoaaPSpliceWholex10
import Derived.Test.YtakefijfdgpdoaaPSpliceWholex11
import Derived.Test.YtakefijfdgpdoaaSpliceWholeEvSplice
namespace Go.Proofs.Ytakefijfdgpdoaa.Pure
open Go.RowKit Go.Proofs.Ytakefijfdgpdoaa.PSpliceWhole Go.Proofs.YtakefijfdgpdoaaW.PrintWords Go.Proofs.YtakefijfdgpdoaaW.PrintLast Geo

def wholeI (l : List (List IP)) (lo hi : Int) : Prop := ∀ P ∈ l, ¬ (maxX P > hi ∧ minX P < lo)

theorem whole_loop (l : List (List S47)) (hv : ∀ P ∈ ptss l, chk P = 0) (hl : l.length ≤ 60) (lo hi : Int) (d : Nat) : ∀ i : Nat, i + d = l.length →
    Evt (fun k => garmentlaw37_whole.l0 k l lo hi (i : Int)) (tb (wholeI (ptss (l.drop i)) lo hi)) := by
  induction d with
  | zero =>
    intro i hi'
    refine Evt.succ ?_
    simp only [garmentlaw37_whole.l0]
    refine Evt.neg (by omega) (Evt.cast ?_ (Evt.ret _))
    rw [List.drop_of_length_le (by omega), tb_true]
    intro P hP; simp [ptss] at hP
  | succ d ih =>
    intro i hi'
    have hil : i < l.length := by omega
    have hc : chk (pts l[i]) = 0 := hv _ (List.mem_map.2 ⟨l[i], List.getElem_mem hil, rfl⟩)
    obtain ⟨e, b1, b2, b3⟩ := valid_box hc
    refine Evt.succ ?_
    simp only [garmentlaw37_whole.l0]
    refine Evt.pos (by omega) (Evt.pos (by omega) ?_)
    rw [rd_L l hil]
    refine Evt.bind (box_ev l[i]) ?_
    rw [e]
    simp only
    refine Evt.pos trivial ?_
    rw [wr (x := minX (pts l[i]) + (maxX (pts l[i]) - minX (pts l[i]))) (by omega) (by omega), show minX (pts l[i]) + (maxX (pts l[i]) - minX (pts l[i])) = maxX (pts l[i]) by omega, wr1 (by omega), drop_getL l hil]
    have next := ih (i + 1) (by omega)
    have sp : wholeI (pts l[i] :: ptss (l.drop (i + 1))) lo hi ↔ ¬ (maxX (pts l[i]) > hi ∧ minX (pts l[i]) < lo) ∧ wholeI (ptss (l.drop (i + 1))) lo hi := by
      unfold wholeI; simp
    by_cases h1 : maxX (pts l[i]) > hi
    · refine Evt.pos h1 ?_
      by_cases h2 : minX (pts l[i]) < lo
      · refine Evt.pos h2 (Evt.cast ?_ (Evt.ret _))
        rw [tb_false]; rw [sp]; exact fun h => h.1 ⟨h1, h2⟩
      · refine Evt.neg h2 (Evt.cast (tb_congr ?_) next)
        rw [sp]; exact ⟨fun h => ⟨fun x => h2 x.2, h⟩, fun h => h.2⟩
    · refine Evt.neg h1 (Evt.cast (tb_congr ?_) next)
      rw [sp]; exact ⟨fun h => ⟨fun x => h1 x.1, h⟩, fun h => h.2⟩

theorem whole_ev (l : List (List S47)) (hv : ∀ P ∈ ptss l, chk P = 0) (hl : l.length ≤ 60) (lo hi : Int) : Evt (fun k => garmentlaw37_whole.f k l lo hi) (tb (wholeI (ptss l) lo hi)) := by
  unfold garmentlaw37_whole.f
  have := whole_loop l hv hl lo hi l.length 0 (by omega)
  simpa using this

theorem awake_end : Evt (fun k => (garmentlaw37_awake.f k).bind fun t => some t) true := Evt.bind awake_ev (Evt.ret _)
theorem whole_back (l : List (List IP)) (hi : Int) : wholeI l (backI (l.map zone) hi) hi := by
  rintro P hP ⟨h1, h2⟩
  have := back_zone (hi := hi) (List.mem_map.2 ⟨P, hP, rfl⟩ : zone P ∈ l.map zone) h1
  have e : (zone P).1 = minX P := rfl
  omega
theorem later_divides {l : List (List IP)} {hi lo : Int} (h1 : backI (l.map zone) hi < lo) (h2 : lo ≤ hi) : ¬ wholeI l lo hi := by
  rcases back_is (l.map zone) hi with e | ⟨z, hz, hz2, e⟩
  · omega
  · obtain ⟨P, hP, rfl⟩ := List.mem_map.1 hz
    intro hw
    exact hw P hP ⟨hz2, by have : (zone P).1 = minX P := rfl; omega⟩
--LAW
theorem SpliceWhole : garmentlaw37_SpliceWhole.Pure := by
  intro len l hi lo _ _ _ _
  apply Evt.ex (g := fun k => garmentlaw37_SpliceWhole.f k len l hi lo)
  unfold garmentlaw37_SpliceWhole.f
  obtain ⟨b, hb, hbl⟩ := few_ev l 60 (by omega)
  refine Evt.bind hb ?_
  cases b with
  | false => exact Evt.neg (by simp) awake_end
  | true =>
    refine Evt.pos rfl (Evt.bind (Back_ev len l hi) ?_)
    unfold BackI
    by_cases h : commonErr len (ptss l) = 0
    · rw [if_neg (by simpa using h)]
      by_cases h2 : hi < 0 ∨ hi > len
      · rw [if_pos h2]
        simp only
        exact Evt.neg (by omega) (Evt.pos trivial awake_end)
      · rw [if_neg h2]
        simp only
        obtain ⟨c1, c2, c3, c4⟩ := common_len h
        have hv : ∀ P ∈ ptss l, chk P = 0 := fun P hP => (c4 P hP).1
        have hb0 : 0 ≤ backI ((ptss l).map zone) hi := by
          rcases back_is ((ptss l).map zone) hi with e | ⟨z, hz, hz2, e⟩
          · omega
          · obtain ⟨P, hP, rfl⟩ := List.mem_map.1 hz
            have := (c4 P hP).2.1
            have : (zone P).1 = minX P := rfl
            omega
        have hb1 := back_le ((ptss l).map zone) hi
        refine Evt.pos trivial (Evt.neg (by omega) (Evt.neg (by omega) ?_))
        refine Evt.bind (whole_ev l hv (hbl rfl) _ _) ?_
        rw [tb_true (whole_back (ptss l) hi)]
        refine Evt.succ ?_
        simp only [garmentlaw37_SpliceWhole.j0]
        refine Evt.neg (by simp) ?_
        by_cases h3 : lo ≤ backI ((ptss l).map zone) hi
        · exact Evt.pos h3 awake_end
        refine Evt.neg h3 ?_
        by_cases h4 : lo > hi
        · exact Evt.pos h4 awake_end
        refine Evt.neg h4 ?_
        refine Evt.bind (whole_ev l hv (hbl rfl) _ _) ?_
        rw [tb_false (later_divides (by omega) (by omega))]
        exact Evt.neg (by simp) awake_end
    · rw [if_pos h]
      simp only
      exact Evt.neg h (Evt.pos trivial awake_end)
--END
end Go.Proofs.Ytakefijfdgpdoaa.Pure
