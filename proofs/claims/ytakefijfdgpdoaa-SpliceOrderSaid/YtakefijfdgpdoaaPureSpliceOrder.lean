/- Only the extents of the polygons along the cloth matter, in any order: the statement over numbers and lists, for every input. -/
import Derived.Test.YtakefijfdgpdoaaPSpliceOrderx0
import Derived.Test.YtakefijfdgpdoaaPSpliceOrderx1
import Derived.Test.YtakefijfdgpdoaaPSpliceOrderx2
import Derived.Test.YtakefijfdgpdoaaPSpliceOrderx3
import Derived.Test.YtakefijfdgpdoaaPSpliceOrderx4
import Derived.Test.YtakefijfdgpdoaaPSpliceOrderx5
import Derived.Test.YtakefijfdgpdoaaPSpliceOrderx6
import Derived.Test.YtakefijfdgpdoaaPSpliceOrderx7
import Derived.Test.YtakefijfdgpdoaaPSpliceOrderx8
import Derived.Test.YtakefijfdgpdoaaPSpliceOrderx9
import Derived.Test.YtakefijfdgpdoaaPSpliceOrderx10
import Derived.Test.YtakefijfdgpdoaaPSpliceOrderx11
import Derived.Test.YtakefijfdgpdoaaSpliceOrderEvSplice
namespace Go.Proofs.Ytakefijfdgpdoaa.Pure
open Go.RowKit Go.Proofs.Ytakefijfdgpdoaa.PSpliceOrder Go.Proofs.YtakefijfdgpdoaaW.PrintWords Go.Proofs.YtakefijfdgpdoaaW.PrintLast Geo

theorem awake_end : Evt (fun k => (garmentlaw37_awake.f k).bind fun t => some t) true := Evt.bind awake_ev (Evt.ret _)
--LAW
def boxOf (P : List IP) : List S47 := [⟨minX P, 0⟩, ⟨maxX P, 0⟩, ⟨maxX P, 5⟩, ⟨minX P, 5⟩]
theorem boxOf_pts (P : List IP) : pts (boxOf P) = [(minX P, 0), (maxX P, 0), (maxX P, 5), (minX P, 5)] := rfl
theorem boxOf_ok {P : List IP} (h : chk P = 0) : chk (pts (boxOf P)) = 0 ∧ minX (pts (boxOf P)) = minX P ∧ maxX (pts (boxOf P)) = maxX P := by
  obtain ⟨_, b1, b2, b3⟩ := valid_box h
  rw [boxOf_pts]
  refine ⟨rect_ok b3 (by omega) (by unfold insI; omega) (by unfold insI; omega) (by unfold insI; omega) (by unfold insI; omega), ?_, ?_⟩
  · show List.foldl _ _ _ = _
    simp only [List.foldl_cons, List.foldl_nil, List.headD_cons]; omega
  · show List.foldl _ _ _ = _
    simp only [List.foldl_cons, List.foldl_nil, List.headD_cons]; omega

theorem order_end (len : Int) (l bx : List (List S47)) (lo hi : Int) (hv : ∀ P ∈ ptss l, chk P = 0) (hbl : bx.length = l.length) (hbx : ∀ z, z ∈ (ptss bx).map zone ↔ z ∈ (ptss l).map zone) (hbv : ∀ P ∈ ptss bx, chk P = 0)
    (i : Int) (hi' : ¬ i ≥ 0) : Evt (fun k => garmentlaw37_SpliceOrder.l0 k len l lo hi bx i) true := by
  have hcomm : commonErr len (ptss l) = commonErr len (ptss bx) := by
    unfold commonErr
    rw [ptss_len, ptss_len, hbl]
    split
    · rfl
    · split
      · rfl
      · rcases extErr_13 (len := len) hv with e1 | e1 <;> rcases extErr_13 (len := len) hbv with e2 | e2
        · rw [e1, e2]
        · exfalso
          have := extErr_zero.1 e1
          have h2 : extErr len chk (ptss bx) = 0 := extErr_zero.2 (fun P hP => by
            have : zone P ∈ (ptss l).map zone := (hbx _).1 (List.mem_map.2 ⟨P, hP, rfl⟩)
            obtain ⟨Q, hQ, e⟩ := List.mem_map.1 this
            have q := extErr_zero.1 e1 Q hQ
            simp only [zone, Prod.mk.injEq] at e
            exact ⟨hbv P hP, by omega, by omega⟩)
          omega
        · exfalso
          have h2 : extErr len chk (ptss l) = 0 := extErr_zero.2 (fun P hP => by
            have : zone P ∈ (ptss bx).map zone := (hbx _).2 (List.mem_map.2 ⟨P, hP, rfl⟩)
            obtain ⟨Q, hQ, e⟩ := List.mem_map.1 this
            have q := extErr_zero.1 e2 Q hQ
            simp only [zone, Prod.mk.injEq] at e
            exact ⟨hv P hP, by omega, by omega⟩)
          omega
        · rw [e1, e2]
  have hback : BackI len (ptss l) hi = BackI len (ptss bx) hi := by
    unfold BackI
    rw [hcomm, back_congr hbx]
  obtain ⟨r, hr, cr⟩ := Best_ev len l lo hi
  obtain ⟨s, hs, cs⟩ := Best_ev len bx lo hi
  rw [← hcomm] at cs
  have hrs : r = s := by
    rcases cr with ⟨a1, rfl⟩ | ⟨a1, a2, rfl⟩ | ⟨a1, a2, a3, a4, a5⟩ <;> rcases cs with ⟨b1, rfl⟩ | ⟨b1, b2, rfl⟩ | ⟨b1, b2, b3, b4, b5⟩
    · rfl
    · exact absurd b1 a1
    · exact absurd b1 a1
    · exact absurd a1 b1
    · rfl
    · omega
    · exact absurd a1 b1
    · omega
    · have hbk := back_congr hbx
      have okc : ∀ t, okI ((ptss bx).map zone) lo hi t ↔ okI ((ptss l).map zone) lo hi t := by intro t; unfold okI; rw [hbk]
      have tc : ∀ t, t ∈ triedI ((ptss bx).map zone) hi ↔ t ∈ triedI ((ptss l).map zone) hi := by
        intro t
        unfold triedI
        simp only [List.mem_cons, List.mem_flatMap]
        constructor
        · rintro (h | ⟨z, hz, h⟩)
          · exact Or.inl h
          · exact Or.inr ⟨z, (hbx z).1 hz, h⟩
        · rintro (h | ⟨z, hz, h⟩)
          · exact Or.inl h
          · exact Or.inr ⟨z, (hbx z).2 hz, h⟩
      rcases a5 with ⟨y, rfl, hy, ty⟩ | ⟨rfl, hy⟩ <;> rcases b5 with ⟨z, rfl, hz, tz⟩ | ⟨rfl, hz⟩
      · have hz' : BestI ((ptss l).map zone) lo hi (· ∈ triedI ((ptss l).map zone) hi) z := by
          refine ⟨(okc _).1 hz.1, by rw [hz.2.1, hbk], ?_⟩
          intro t ht ok
          rw [← hbk]
          exact hz.2.2 t ((tc t).2 ht) ((okc t).2 ok)
        have := best_uniq hy hz' ty ((tc _).1 tz)
        rw [this]
      · exact absurd ((okc _).2 hy.1) (hz _ ((tc _).2 ty))
      · exact absurd ((okc _).1 hz.1) (hy _ ((tc _).1 tz))
      · rfl
  subst hrs
  refine Evt.succ ?_
  simp only [garmentlaw37_SpliceOrder.l0]
  refine Evt.neg hi' (Evt.bind (Back_ev len l hi) (Evt.bind (Back_ev len bx hi) (Evt.bind hr (Evt.bind hs ?_))))
  rw [hback]
  exact Evt.pos rfl (Evt.pos rfl (Evt.pos (by simp) (Evt.pos rfl awake_end)))

theorem order_loop (len : Int) (l : List (List S47)) (hl : l.length ≤ 60) (lo hi : Int) (n : Nat) : ∀ (bx : List (List S47)), n ≤ l.length → bx.length = l.length - n →
    (∀ P ∈ ptss (l.drop n), chk P = 0) → (∀ z, z ∈ (ptss bx).map zone ↔ z ∈ (ptss (l.drop n)).map zone) → (∀ P ∈ ptss bx, chk P = 0) →
    Evt (fun k => garmentlaw37_SpliceOrder.l0 k len l lo hi bx ((n : Int) - 1)) true := by
  induction n with
  | zero =>
    intro bx _ hb hv hz hbv
    exact order_end len l bx lo hi (by simpa using hv) (by omega) (by simpa using hz) hbv _ (by omega)
  | succ n ih =>
    intro bx hn hb hv hz hbv
    have hnl : n < l.length := by omega
    have e : ((n + 1 : Nat) : Int) - 1 = (n : Int) := by omega
    rw [e]
    refine Evt.succ ?_
    simp only [garmentlaw37_SpliceOrder.l0]
    refine Evt.pos (by omega) (Evt.pos (by omega) (Evt.pos (by omega) ?_))
    rw [rd_L l hnl]
    refine Evt.bind (box_ev l[n]) ?_
    by_cases hc : chk (pts l[n]) = 0
    · obtain ⟨eb, b1, b2, b3⟩ := valid_box hc
      rw [eb]
      simp only
      rw [wr (x := minX (pts l[n]) + (maxX (pts l[n]) - minX (pts l[n]))) (by omega) (by omega), show minX (pts l[n]) + (maxX (pts l[n]) - minX (pts l[n])) = maxX (pts l[n]) by omega]
      refine Evt.pos trivial (Evt.bindc (box_four _ _) (Evt.pos (by omega) ?_))
      rw [wr (x := (n : Int) - 1) (by omega) (by omega)]
      obtain ⟨k1, k2, k3⟩ := boxOf_ok hc
      have hz2 : zone (pts (boxOf (pts l[n]))) = zone (pts l[n]) := by unfold zone; rw [k2, k3]
      refine ih (bx ++ [boxOf (pts l[n])]) (by omega) (by simp; omega) ?_ ?_ ?_
      · intro P hP
        rw [drop_getL l hnl] at hP
        rcases List.mem_cons.1 hP with rfl | hP
        · exact hc
        · exact hv P hP
      · intro z
        rw [drop_getL l hnl, show ptss (bx ++ [boxOf (pts l[n])]) = ptss bx ++ [pts (boxOf (pts l[n]))] by simp [ptss], List.map_append, List.mem_append, hz z]
        simp only [List.map_cons, List.map_nil, List.mem_cons, List.not_mem_nil, or_false, hz2]
        exact Or.comm
      · intro P hP
        rw [show ptss (bx ++ [boxOf (pts l[n])]) = ptss bx ++ [pts (boxOf (pts l[n]))] by simp [ptss]] at hP
        rcases List.mem_append.1 hP with hP | hP
        · exact hbv P hP
        · rw [List.mem_singleton.1 hP]; exact k1
    · have eb : boxI (pts l[n]) = (0, 0, 0, 0, chk (pts l[n])) := by unfold boxI; rw [if_neg hc]
      rw [eb]
      exact Evt.neg hc awake_end

theorem SpliceOrder : garmentlaw37_SpliceOrder.Pure := by
  intro len l lo hi _ _ _ _
  apply Evt.ex (g := fun k => garmentlaw37_SpliceOrder.f k len l lo hi)
  unfold garmentlaw37_SpliceOrder.f
  have stop : Evt (fun k => garmentlaw37_SpliceOrder.j0 k len l lo hi true) true := by
    refine Evt.succ ?_
    simp only [garmentlaw37_SpliceOrder.j0]
    exact Evt.pos trivial awake_end
  obtain ⟨f, hf, hfl⟩ := few_ev l 30 (by omega)
  refine Evt.bind hf ?_
  cases f with
  | false => exact Evt.neg (by simp) stop
  | true =>
    refine Evt.pos rfl ?_
    by_cases h0 : hi > 200
    · rw [decide_eq_true h0]; exact stop
    rw [decide_eq_false h0]
    refine Evt.succ ?_
    simp only [garmentlaw37_SpliceOrder.j0]
    refine Evt.neg (by simp) ?_
    have := hfl rfl
    rw [wr (x := (l.length : Int) - 1) (by omega) (by omega)]
    exact order_loop len l (by omega) lo hi l.length [] (by omega) (by simp) (by simp [ptss]) (by simp [ptss]) (by simp [ptss])
--END
end Go.Proofs.Ytakefijfdgpdoaa.Pure
