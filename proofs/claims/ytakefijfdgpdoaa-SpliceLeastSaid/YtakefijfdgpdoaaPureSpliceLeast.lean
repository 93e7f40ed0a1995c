/- No admissible zone is shorter than the best one: the statement over numbers and lists, for every input. -/
import Derived.Test.YtakefijfdgpdoaaPSpliceLeastx0
import Derived.Test.YtakefijfdgpdoaaPSpliceLeastx1
import Derived.Test.YtakefijfdgpdoaaPSpliceLeastx2
import Derived.Test.YtakefijfdgpdoaaPSpliceLeastx3
import Derived.Test.YtakefijfdgpdoaaPSpliceLeastx4
import Derived.Test.YtakefijfdgpdoaaPSpliceLeastx5
import Derived.Test.YtakefijfdgpdoaaPSpliceLeastx6
import Derived.Test.YtakefijfdgpdoaaPSpliceLeastx7
import Derived.Test.YtakefijfdgpdoaaPSpliceLeastx8
import Derived.Test.YtakefijfdgpdoaaPSpliceLeastx9
import Derived.Test.YtakefijfdgpdoaaPSpliceLeastx10
import Derived.Test.YtakefijfdgpdoaaPSpliceLeastx11
import Derived.Test.YtakefijfdgpdoaaSpliceLeastEvSplice
namespace Go.Proofs.Ytakefijfdgpdoaa.Pure
open Go.RowKit Go.Proofs.Ytakefijfdgpdoaa.PSpliceLeast Go.Proofs.YtakefijfdgpdoaaW.PrintWords Go.Proofs.YtakefijfdgpdoaaW.PrintLast Geo

def wholeI (l : List (List IP)) (lo hi : Int) : Prop := ∀ P ∈ l, ¬ (maxX P > hi ∧ minX P < lo)

theorem whole_loop (l : List (List S47)) (hv : ∀ P ∈ ptss l, chk P = 0) (hl : l.length ≤ 60) (lo hi : Int) (d : Nat) : ∀ i : Nat, i + d = l.length →
    Evt (fun k => garmentlaw37_whole.l0 k l lo hi (i : Int)) (tb (wholeI (ptss (l.drop i)) lo hi)) := by
  induction d with
  | zero =>
    intro i hi'
    refine Evt.succ ?_
    simp only [garmentlaw37_whole.l0]
    refine Evt.neg (by omega) (Evt.cast ?_ (Evt.ret _))
    rw [List.drop_of_length_le (by omega), tb_true]
    intro P hP; simp [ptss] at hP
  | succ d ih =>
    intro i hi'
    have hil : i < l.length := by omega
    have hc : chk (pts l[i]) = 0 := hv _ (List.mem_map.2 ⟨l[i], List.getElem_mem hil, rfl⟩)
    obtain ⟨e, b1, b2, b3⟩ := valid_box hc
    refine Evt.succ ?_
    simp only [garmentlaw37_whole.l0]
    refine Evt.pos (by omega) (Evt.pos (by omega) ?_)
    rw [rd_L l hil]
    refine Evt.bind (box_ev l[i]) ?_
    rw [e]
    simp only
    refine Evt.pos trivial ?_
    rw [wr (x := minX (pts l[i]) + (maxX (pts l[i]) - minX (pts l[i]))) (by omega) (by omega), show minX (pts l[i]) + (maxX (pts l[i]) - minX (pts l[i])) = maxX (pts l[i]) by omega, wr1 (by omega), drop_getL l hil]
    have next := ih (i + 1) (by omega)
    have sp : wholeI (pts l[i] :: ptss (l.drop (i + 1))) lo hi ↔ ¬ (maxX (pts l[i]) > hi ∧ minX (pts l[i]) < lo) ∧ wholeI (ptss (l.drop (i + 1))) lo hi := by
      unfold wholeI; simp
    by_cases h1 : maxX (pts l[i]) > hi
    · refine Evt.pos h1 ?_
      by_cases h2 : minX (pts l[i]) < lo
      · refine Evt.pos h2 (Evt.cast ?_ (Evt.ret _))
        rw [tb_false]; rw [sp]; exact fun h => h.1 ⟨h1, h2⟩
      · refine Evt.neg h2 (Evt.cast (tb_congr ?_) next)
        rw [sp]; exact ⟨fun h => ⟨fun x => h2 x.2, h⟩, fun h => h.2⟩
    · refine Evt.neg h1 (Evt.cast (tb_congr ?_) next)
      rw [sp]; exact ⟨fun h => ⟨fun x => h1 x.1, h⟩, fun h => h.2⟩

theorem whole_ev (l : List (List S47)) (hv : ∀ P ∈ ptss l, chk P = 0) (hl : l.length ≤ 60) (lo hi : Int) : Evt (fun k => garmentlaw37_whole.f k l lo hi) (tb (wholeI (ptss l) lo hi)) := by
  unfold garmentlaw37_whole.f
  have := whole_loop l hv hl lo hi l.length 0 (by omega)
  simpa using this

theorem awake_end : Evt (fun k => (garmentlaw37_awake.f k).bind fun t => some t) true := Evt.bind awake_ev (Evt.ret _)
theorem whole_back (l : List (List IP)) (hi : Int) : wholeI l (backI (l.map zone) hi) hi := by
  rintro P hP ⟨h1, h2⟩
  have := back_zone (hi := hi) (List.mem_map.2 ⟨P, hP, rfl⟩ : zone P ∈ l.map zone) h1
  have e : (zone P).1 = minX P := rfl
  omega
theorem later_divides {l : List (List IP)} {hi lo : Int} (h1 : backI (l.map zone) hi < lo) (h2 : lo ≤ hi) : ¬ wholeI l lo hi := by
  rcases back_is (l.map zone) hi with e | ⟨z, hz, hz2, e⟩
  · omega
  · obtain ⟨P, hP, rfl⟩ := List.mem_map.1 hz
    intro hw
    exact hw P hP ⟨hz2, by have : (zone P).1 = minX P := rfl; omega⟩
--LAW
theorem least_loop (len : Int) (l : List (List S47)) (lo hi e z0 z1 : Int) (c : commonErr len (ptss l) = 0) (h1 : hi ≤ len) (hh : hi ≤ 120) (hlo : 0 ≤ lo)
    (good : ∀ h, okI ((ptss l).map zone) lo hi h → e = 0 ∧ ¬ (h - backI ((ptss l).map zone) h < z1 - z0) ∧ ¬ (h - backI ((ptss l).map zone) h = z1 - z0 ∧ h > z1))
    (hz0 : 0 ≤ z0 ∧ z0 ≤ 2000000) (hz1 : 0 ≤ z1 ∧ z1 ≤ 2000000) (d : Nat) : ∀ h : Nat, ((h : Int) + d = hi + 1 ∨ (hi + 1 ≤ h ∧ d = 0)) → h ≤ 200 →
    Evt (fun k => garmentlaw37_SpliceLeast.l0 k len l lo hi e (h : Int) z0 z1) true := by
  obtain ⟨c1, c2, c3, c4⟩ := common_len c
  induction d with
  | zero =>
    intro h hd _
    refine Evt.succ ?_
    simp only [garmentlaw37_SpliceLeast.l0]
    exact Evt.neg (by omega) awake_end
  | succ d ih =>
    intro h hd _
    refine Evt.succ ?_
    simp only [garmentlaw37_SpliceLeast.l0]
    refine Evt.pos (by omega) (Evt.bind (Back_ev len l h) ?_)
    rw [Back_ok c (by omega) (by omega)]
    simp only
    refine Evt.pos trivial ?_
    have next := ih (h + 1) (by omega) (by omega)
    rw [wr1 (by omega)]
    have hb := back_le ((ptss l).map zone) h
    have hb0 : 0 ≤ backI ((ptss l).map zone) h := by
      rcases back_is ((ptss l).map zone) h with e | ⟨z, hz, hz2, e⟩
      · omega
      · obtain ⟨P, hP, rfl⟩ := List.mem_map.1 hz
        have := (c4 P hP).2.1
        have : (zone P).1 = minX P := rfl
        omega
    by_cases hlt : backI ((ptss l).map zone) h > lo
    · refine Evt.pos hlt ?_
      obtain ⟨g1, g2, g3⟩ := good h ⟨by omega, by omega, by omega⟩
      rw [wr (x := (h : Int) - backI ((ptss l).map zone) h) (by omega) (by omega), wr (x := z1 - z0) (by omega) (by omega)]
      refine Evt.pos g1 (Evt.neg g2 ?_)
      by_cases he : (h : Int) - backI ((ptss l).map zone) h = z1 - z0
      · exact Evt.pos he (Evt.neg (fun x => g3 ⟨he, x⟩) next)
      · exact Evt.neg he next
    · exact Evt.neg hlt next

theorem chk_vals (P : List IP) : chk P = 0 ∨ chk P = 3 ∨ chk P = 5 ∨ chk P = 11 := by
  unfold chk
  split
  · simp
  · split
    · simp
    · split
      · simp
      · split <;> simp
theorem ext_vals (len : Int) (l : List (List IP)) : extErr len chk l ≠ 18 := by
  induction l with
  | nil => simp [extErr]
  | cons P l ih =>
    unfold extErr
    split
    · have := chk_vals P; omega
    · split
      · simp
      · exact ih
theorem common_vals (len : Int) (l : List (List IP)) : commonErr len l ≠ 18 := by
  unfold commonErr
  split
  · simp
  · split
    · simp
    · exact ext_vals len l

theorem SpliceLeast : garmentlaw37_SpliceLeast.Pure := by
  intro len l lo hi _ _ _ _
  apply Evt.ex (g := fun k => garmentlaw37_SpliceLeast.f k len l lo hi)
  unfold garmentlaw37_SpliceLeast.f
  have stop : Evt (fun k => garmentlaw37_SpliceLeast.j0 k len l lo hi true) true := by
    refine Evt.succ ?_
    simp only [garmentlaw37_SpliceLeast.j0]
    exact Evt.pos trivial awake_end
  have none : ∀ e : Int, Evt (fun k => garmentlaw37_SpliceLeast.j1 k len l lo hi e true 0 0) true := by
    intro e
    refine Evt.succ ?_
    simp only [garmentlaw37_SpliceLeast.j1]
    exact Evt.pos trivial (Evt.pos (by simp) awake_end)
  obtain ⟨f, hf, hfl⟩ := few_ev l 20 (by omega)
  refine Evt.bind hf ?_
  cases f with
  | false => exact Evt.neg (by simp) stop
  | true =>
    refine Evt.pos rfl ?_
    by_cases h0 : hi > 120
    · rw [decide_eq_true h0]; exact stop
    rw [decide_eq_false h0]
    refine Evt.succ ?_
    simp only [garmentlaw37_SpliceLeast.j0]
    refine Evt.neg (by simp) ?_
    obtain ⟨r, hr, cr⟩ := Best_ev len l lo hi
    refine Evt.bind hr ?_
    have hl20 := hfl rfl
    rcases cr with ⟨a1, rfl⟩ | ⟨a1, a2, rfl⟩ | ⟨a1, a2, a3, a4, a5⟩
    · have h18 := common_vals len (ptss l)
      simp only
      refine Evt.neg a1 ?_
      rw [show (commonErr len (ptss l) != 18) = true by simpa using h18]
      exact none _
    · exact Evt.neg (by simp) (none _)
    · obtain ⟨c1, c2, c3, c4⟩ := common_len a1
      rcases a5 with ⟨z, rfl, hz, tz⟩ | ⟨rfl, hno⟩
      · simp only
        have ok := hz.1
        have e0 := hz.2.1
        have o1 := ok.1
        have o2 := ok.2.1
        have o3 := ok.2.2
        rw [← e0] at o3
        have o4 := back_le ((ptss l).map zone) z.2
        rw [← e0] at o4
        refine Evt.pos trivial (Evt.succ ?_)
        simp only [garmentlaw37_SpliceLeast.j1]
        refine Evt.neg (by simp) (Evt.pos trivial (Evt.neg (by omega) (Evt.neg (by omega) (Evt.neg (by omega) ?_))))
        refine Evt.bind (whole_ev l (fun P hP => (c4 P hP).1) (by omega) z.1 z.2) ?_
        have hw : wholeI (ptss l) z.1 z.2 := by rw [e0]; exact whole_back _ _
        rw [tb_true hw]
        refine Evt.succ ?_
        simp only [garmentlaw37_SpliceLeast.j2]
        refine Evt.neg (by simp) ?_
        refine least_loop len l lo hi 0 z.1 z.2 a1 a4 (by omega) a2 ?_ (by omega) (by omega) (hi + 1).toNat 0 (by omega) (by omega)
        intro h okh
        obtain ⟨t, ht, okt, hbt⟩ := tried_enough a2 okh
        have := hz.2.2 t ht okt
        refine ⟨rfl, by omega, by omega⟩
      · simp only
        refine Evt.neg (by simp) (Evt.succ ?_)
        simp only [garmentlaw37_SpliceLeast.j1]
        refine Evt.neg (by simp) (Evt.neg (by simp) (Evt.succ ?_))
        simp only [garmentlaw37_SpliceLeast.j2]
        refine Evt.neg (by simp) ?_
        refine least_loop len l lo hi 18 0 0 a1 a4 (by omega) a2 ?_ (by omega) (by omega) (hi + 1).toNat 0 (by omega) (by omega)
        intro h okh
        obtain ⟨t, ht, okt, hbt⟩ := tried_enough a2 okh
        exact absurd okt (hno t ht)
--END
end Go.Proofs.Ytakefijfdgpdoaa.Pure
