/- The program's splice package, as printed, answers what P37 says. -/
import Derived.Test.YtakefijfdgpdoaaPSpliceWholex0
import Derived.Test.YtakefijfdgpdoaaPSpliceWholex1
import Derived.Test.YtakefijfdgpdoaaPSpliceWholex2
import Derived.Test.YtakefijfdgpdoaaPSpliceWholex3
import Derived.Test.YtakefijfdgpdoaaPSpliceWholex4
import Derived.Test.YtakefijfdgpdoaaPSpliceWholex5
import Derived.Test.YtakefijfdgpdoaaPSpliceWholex6
import Derived.Test.YtakefijfdgpdoaaPSpliceWholex7
import Derived.Test.YtakefijfdgpdoaaPSpliceWholex8
import Derived.Test.YtakefijfdgpdoaaPSpliceWholex9
import Derived.Test.YtakefijfdgpdoaaPSpliceWholex10
import Derived.Test.YtakefijfdgpdoaaPSpliceWholex11
import Derived.Test.YtakefijfdgpdoaaSpliceWholeEvPoly
import Derived.Test.YtakefijfdgpdoaaP37
namespace Go.Proofs.Ytakefijfdgpdoaa.PSpliceWhole
open Go.RowKit Go.Proofs.YtakefijfdgpdoaaW.PrintWords Go.Proofs.YtakefijfdgpdoaaW.PrintLast Geo

def ptss (l : List (List S47)) : List (List IP) := l.map pts
theorem ptss_len (l : List (List S47)) : (ptss l).length = l.length := by simp [ptss]
theorem rd_L (l : List (List S47)) {i : Nat} (h : i < l.length) : rd_L2 l (i : Int) = l[i] := by
  unfold rd_L2; simp [List.getD, h]
def zn (z : S31) : IP := (z.f0, z.f1)
def zns (l : List S31) : List IP := l.map zn

theorem valid_box {P : List IP} (h : chk P = 0) : boxI P = (minX P, minY P, maxX P - minX P, maxY P - minY P, 0) ∧ -1048576 ≤ minX P ∧ maxX P ≤ 1048576 ∧ minX P < maxX P := by
  obtain ⟨h1, h2, h3, h4⟩ := chk_ok.1 h
  have hne : P ≠ [] := by rintro rfl; simp at h2
  obtain ⟨s, hs, e⟩ := (minX_spec hne).2
  obtain ⟨s', hs', e'⟩ := (maxX_spec hne).2
  have a := (h3 s hs).1
  have b := (h3 s' hs').1
  unfold insI at a b
  refine ⟨by unfold boxI; rw [if_pos h], by omega, by omega, width_pos h⟩

theorem few_loop (l : List (List S47)) (n : Nat) (hn : n ≤ 1000) (d : Nat) : ∀ i : Nat, i + d = min l.length n →
    ∃ b, Evt (fun k => garmentref37_Few.l0 k l (n : Int) (i : Int)) b ∧ (b = true → l.length ≤ n) := by
  induction d with
  | zero =>
    intro i hi
    refine ⟨decide ((l.length : Int) ≤ n), Evt.succ ?_, ?_⟩
    · simp only [garmentref37_Few.l0]
      by_cases h : i < l.length
      · refine Evt.pos (by omega) ?_
        rw [decide_eq_false (by omega)]
        refine Evt.succ ?_
        simp only [garmentref37_Few.j1]
        exact Evt.neg (by simp) (Evt.ret _)
      · refine Evt.neg (by omega) ?_
        refine Evt.succ ?_
        simp only [garmentref37_Few.j1]
        exact Evt.neg (by simp) (Evt.ret _)
    · intro h; simp at h; omega
  | succ d ih =>
    intro i hi
    have hr : Evt (fun k => garmentref37_Few.l0 k l (n : Int) (i : Int)) (if ((rd_L2 l (i : Int)).length : Int) > 50 then false else (ih (i + 1) (by omega)).choose) := by
      refine Evt.succ ?_
      simp only [garmentref37_Few.l0]
      refine Evt.pos (by omega) ?_
      rw [decide_eq_true (by omega)]
      refine Evt.succ ?_
      simp only [garmentref37_Few.j1]
      refine Evt.pos trivial (Evt.pos (by omega) (Evt.pos (by omega) ?_))
      by_cases h : ((rd_L2 l (i : Int)).length : Int) > 50
      · rw [if_pos h]; exact Evt.pos h (Evt.ret _)
      · rw [if_neg h]
        refine Evt.neg h ?_
        rw [wr1 (by omega)]
        exact (ih (i + 1) (by omega)).choose_spec.1
    refine ⟨_, hr, ?_⟩
    split
    · simp
    · exact (ih (i + 1) (by omega)).choose_spec.2

theorem few_ev (l : List (List S47)) (n : Nat) (hn : n ≤ 1000) : ∃ b, Evt (fun k => garmentref37_Few.f k l (n : Int)) b ∧ (b = true → l.length ≤ n) := by
  unfold garmentref37_Few.f
  exact few_loop l n hn (min l.length n) 0 (by omega)

theorem drop_getL (l : List (List S47)) {i : Nat} (h : i < l.length) : ptss (l.drop i) = pts l[i] :: ptss (l.drop (i + 1)) := by
  rw [List.drop_eq_getElem_cons h]; rfl

theorem extents_loop (len : Int) (h1 : 1 ≤ len) (h2 : len ≤ 1048576) (l : List (List S47)) (hl : l.length ≤ 60) (d : Nat) : ∀ (i : Nat) (acc : List S31), i + d = l.length → acc.length ≤ i →
    ∃ out, Evt (fun k => splice_extents.l0 k len acc l (l.length : Int) (i : Int)) (out, extErr len chk (ptss (l.drop i))) ∧
      (extErr len chk (ptss (l.drop i)) = 0 → zns out = zns acc ++ (ptss (l.drop i)).map zone) := by
  induction d with
  | zero =>
    intro i acc hi ha
    refine ⟨acc, Evt.succ ?_, ?_⟩
    · simp only [splice_extents.l0]
      refine Evt.neg (by omega) (Evt.cast ?_ (Evt.ret _))
      rw [List.drop_of_length_le (by omega)]; rfl
    · rw [List.drop_of_length_le (by omega)]; intro _; simp [ptss]
  | succ d ih =>
    intro i acc hi ha
    have hil : i < l.length := by omega
    have hbox := box_ev l[i]
    rw [drop_getL l hil]
    have start : ∀ r, Evt (fun k => if (boxI (pts l[i])).2.2.2.2 = 0 then (if (boxI (pts l[i])).1 < 0 then some (([] : List S31), (13 : Int)) else if wrap64 ((boxI (pts l[i])).1 + (boxI (pts l[i])).2.2.1) > len then some ([], 13) else
        if acc.length < 8796093022208 then splice_extents.l0 k len (acc ++ [⟨(boxI (pts l[i])).1, wrap64 ((boxI (pts l[i])).1 + (boxI (pts l[i])).2.2.1)⟩]) l (l.length : Int) (wrap64 ((i : Int) + 1)) else none) else some ([], (boxI (pts l[i])).2.2.2.2)) r →
        Evt (fun k => splice_extents.l0 k len acc l (l.length : Int) (i : Int)) r := by
      intro r hr
      refine Evt.succ ?_
      simp only [splice_extents.l0]
      refine Evt.pos (by omega) (Evt.pos (by omega) (Evt.pos (by omega) ?_))
      rw [rd_L l hil]
      exact Evt.bind hbox hr
    unfold extErr
    by_cases hc : chk (pts l[i]) = 0
    · obtain ⟨e, b1, b2, b3⟩ := valid_box hc
      rw [e] at start
      simp only at start
      rw [wr (x := minX (pts l[i]) + (maxX (pts l[i]) - minX (pts l[i]))) (by omega) (by omega), show minX (pts l[i]) + (maxX (pts l[i]) - minX (pts l[i])) = maxX (pts l[i]) by omega] at start
      rw [if_neg (show ¬ chk (pts l[i]) ≠ 0 by simpa using hc)]
      by_cases h3 : minX (pts l[i]) < 0
      · rw [if_pos (Or.inl h3)]
        exact ⟨[], start _ (Evt.pos trivial (Evt.pos h3 (Evt.ret _))), fun h => by simp at h⟩
      · by_cases h4 : maxX (pts l[i]) > len
        · rw [if_pos (Or.inr h4)]
          exact ⟨[], start _ (Evt.pos trivial (Evt.neg h3 (Evt.pos h4 (Evt.ret _)))), fun h => by simp at h⟩
        · rw [if_neg (by omega)]
          obtain ⟨out, ho, hz⟩ := ih (i + 1) (acc ++ [⟨minX (pts l[i]), maxX (pts l[i])⟩]) (by omega) (by simp; omega)
          refine ⟨out, start _ (Evt.pos trivial (Evt.neg h3 (Evt.neg h4 (Evt.pos (by omega) ?_)))), ?_⟩
          · rw [wr1 (by omega)]; exact ho
          · intro h; rw [hz h]; simp [zns, zn, zone]
    · rw [if_pos hc]
      have e : boxI (pts l[i]) = (0, 0, 0, 0, chk (pts l[i])) := by unfold boxI; rw [if_neg hc]
      rw [e] at start
      exact ⟨[], start _ (Evt.neg hc (Evt.ret _)), fun h => absurd h hc⟩

noncomputable def commonErr (len : Int) (l : List (List IP)) : Int := if len < 1 ∨ len > 1048576 then 3 else if 60 < l.length then 5 else extErr len chk l

theorem extents_ev (len : Int) (l : List (List S47)) : ∃ out, Evt (fun k => splice_extents.f k len l) (out, commonErr len (ptss l)) ∧
    (commonErr len (ptss l) = 0 → zns out = (ptss l).map zone) := by
  unfold commonErr
  rw [ptss_len]
  by_cases h1 : len < 1
  · refine ⟨[], ?_, fun h => by rw [if_pos (Or.inl h1)] at h; simp at h⟩
    rw [if_pos (Or.inl h1)]
    unfold splice_extents.f
    refine Evt.pos h1 (Evt.succ ?_)
    simp only [splice_extents.j0]
    exact Evt.pos trivial (Evt.ret _)
  by_cases h2 : len > 1048576
  · refine ⟨[], ?_, fun h => by rw [if_pos (Or.inr h2)] at h; simp at h⟩
    rw [if_pos (Or.inr h2)]
    unfold splice_extents.f
    refine Evt.neg h1 (Evt.succ ?_)
    simp only [splice_extents.j0]
    exact Evt.pos (by simpa using h2) (Evt.ret _)
  rw [if_neg (by omega)]
  have st : ∀ r, Evt (fun k => if (l.length : Int) > 60 then some (([] : List S31), (5 : Int)) else splice_extents.l0 k len [] l (l.length : Int) 0) r → Evt (fun k => splice_extents.f k len l) r := by
    intro r hr
    unfold splice_extents.f
    refine Evt.neg h1 (Evt.succ ?_)
    simp only [splice_extents.j0]
    exact Evt.neg (by simpa using h2) hr
  by_cases h3 : 60 < l.length
  · rw [if_pos h3]
    exact ⟨[], st _ (Evt.pos (by omega) (Evt.ret _)), fun h => by simp at h⟩
  · rw [if_neg h3]
    obtain ⟨out, ho, hz⟩ := extents_loop len (by omega) (by omega) l (by omega) l.length 0 [] (by omega) (by simp)
    exact ⟨out, st _ (Evt.neg (by omega) ho), by simpa [zns] using hz⟩

theorem rd_z0 (l : List S31) {i : Nat} (h : i < l.length) : zn (rd_T31 l (i : Int)) = (zns l)[i]'(by simp [zns]; exact h) := by
  unfold rd_T31 zns
  simp [List.getD, h]

theorem back_loop (hi : Int) (l : List S31) (hl : l.length ≤ 4000) (d : Nat) : ∀ (i : Nat) (m : Int), i + d = l.length →
    Evt (fun k => splice_back.l0 k hi m l (l.length : Int) (i : Int)) (((zns l).drop i).foldl (fun out z => if z.2 > hi then min out z.1 else out) m) := by
  induction d with
  | zero =>
    intro i m hi'
    refine Evt.succ ?_
    simp only [splice_back.l0]
    refine Evt.neg (by omega) (Evt.cast ?_ (Evt.ret _))
    rw [List.drop_of_length_le (by simp [zns]; omega)]; rfl
  | succ d ih =>
    intro i m hi'
    have hil : i < l.length := by omega
    have hz := rd_z0 l hil
    refine Evt.succ ?_
    simp only [splice_back.l0]
    refine Evt.pos (by omega) (Evt.pos (by omega) (Evt.pos (by omega) ?_))
    rw [List.drop_eq_getElem_cons (show i < (zns l).length by simp [zns]; exact hil), ← hz, List.foldl_cons]
    show Evt _ (((zns l).drop (i + 1)).foldl _ (if (rd_T31 l (i : Int)).f1 > hi then min m (rd_T31 l (i : Int)).f0 else m))
    rw [wr1 (by omega)]
    by_cases h : (rd_T31 l (i : Int)).f1 > hi
    · rw [if_pos h]
      refine Evt.pos h ?_
      rw [mn_min]
      exact ih (i + 1) _ (by omega)
    · rw [if_neg h]
      exact Evt.neg h (ih (i + 1) _ (by omega))

theorem back_ev (l : List S31) (hl : l.length ≤ 4000) (hi : Int) : Evt (fun k => splice_back.f k l hi) (backI (zns l) hi) := by
  unfold splice_back.f
  have := back_loop hi l hl l.length 0 hi (by omega)
  rw [List.drop_zero] at this
  exact this

noncomputable def BackI (len : Int) (l : List (List IP)) (hi : Int) : Int × Int :=
  if commonErr len l ≠ 0 then (0, commonErr len l) else if hi < 0 ∨ hi > len then (0, 3) else (backI (l.map zone) hi, 0)

theorem common_len {len : Int} {l : List (List IP)} (h : commonErr len l = 0) : 1 ≤ len ∧ len ≤ 1048576 ∧ l.length ≤ 60 ∧ ∀ P ∈ l, chk P = 0 ∧ 0 ≤ minX P ∧ maxX P ≤ len := by
  unfold commonErr at h
  split at h
  · simp at h
  · split at h
    · simp at h
    · exact ⟨by omega, by omega, by omega, extErr_zero.1 h⟩

theorem Back_ev (len : Int) (l : List (List S47)) (hi : Int) : Evt (fun k => splice_Back.f k len l hi) (BackI len (ptss l) hi) := by
  unfold splice_Back.f BackI
  obtain ⟨out, ho, hz⟩ := extents_ev len l
  refine Evt.bind ho ?_
  simp only
  by_cases h : commonErr len (ptss l) = 0
  · rw [if_neg (by simpa using h)]
    have hol : out.length ≤ 4000 := by
      have := congrArg List.length (hz h)
      have := (common_len h).2.2.1
      simp [zns, ptss] at *
      omega
    refine Evt.pos h ?_
    by_cases h1 : hi < 0
    · rw [if_pos (Or.inl h1)]; exact Evt.pos h1 (Evt.ret _)
    · by_cases h2 : hi > len
      · rw [if_pos (Or.inr h2)]; exact Evt.neg h1 (Evt.pos h2 (Evt.ret _))
      · rw [if_neg (by omega)]
        refine Evt.neg h1 (Evt.neg h2 ?_)
        rw [← hz h]
        exact Evt.bind (back_ev out hol hi) (Evt.ret _)
  · rw [if_pos h]
    exact Evt.neg h (Evt.ret _)

theorem box_four (a b : Int) : garmentlaw37_box.f a b = some [⟨a, 0⟩, ⟨b, 0⟩, ⟨b, 5⟩, ⟨a, 5⟩] := rfl

theorem awake_ev : Evt (fun k => garmentlaw37_awake.f k) true := by
  have h : garmentlaw37_awake.f 100 = some true := by decide +kernel
  refine ⟨100, fun k hk => ?_⟩
  obtain ⟨d, rfl⟩ : ∃ d, k = 100 + d := ⟨k - 100, by omega⟩
  clear hk
  induction d with
  | zero => exact h
  | succ d ih => exact garmentlaw37_awake.mono _ _ ih
end Go.Proofs.Ytakefijfdgpdoaa.PSpliceWhole
