/- The program's splice package, as printed, answers what P37 says. -/
import Derived.Test.YtakefijfdgpdoaaPSpliceRisesx0
import Derived.Test.YtakefijfdgpdoaaPSpliceRisesx1
import Derived.Test.YtakefijfdgpdoaaPSpliceRisesx2
import Derived.Test.YtakefijfdgpdoaaPSpliceRisesx3
import Derived.Test.YtakefijfdgpdoaaPSpliceRisesx4
import Derived.Test.YtakefijfdgpdoaaPSpliceRisesx5
import Derived.Test.YtakefijfdgpdoaaPSpliceRisesx6
import Derived.Test.YtakefijfdgpdoaaPSpliceRisesx7
import Derived.Test.YtakefijfdgpdoaaPSpliceRisesx8
import Derived.Test.YtakefijfdgpdoaaPSpliceRisesx9
import Derived.Test.YtakefijfdgpdoaaPSpliceRisesx10
import Derived.Test.YtakefijfdgpdoaaPSpliceRisesx11
import Derived.Test.YtakefijfdgpdoaaSpliceRisesEvPoly
import Derived.Test.YtakefijfdgpdoaaP37
namespace Go.Proofs.Ytakefijfdgpdoaa.PSpliceRises
open Go.RowKit Go.Proofs.YtakefijfdgpdoaaW.PrintWords Go.Proofs.YtakefijfdgpdoaaW.PrintLast Geo

def ptss (l : List (List S47)) : List (List IP) := l.map pts
theorem ptss_len (l : List (List S47)) : (ptss l).length = l.length := by simp [ptss]
theorem rd_L (l : List (List S47)) {i : Nat} (h : i < l.length) : rd_L2 l (i : Int) = l[i] := by
  unfold rd_L2; simp [List.getD, h]
def zn (z : S31) : IP := (z.f0, z.f1)
def zns (l : List S31) : List IP := l.map zn

theorem valid_box {P : List IP} (h : chk P = 0) : boxI P = (minX P, minY P, maxX P - minX P, maxY P - minY P, 0) ∧ -1048576 ≤ minX P ∧ maxX P ≤ 1048576 ∧ minX P < maxX P := by
  obtain ⟨h1, h2, h3, h4⟩ := chk_ok.1 h
  have hne : P ≠ [] := by rintro rfl; simp at h2
  obtain ⟨s, hs, e⟩ := (minX_spec hne).2
  obtain ⟨s', hs', e'⟩ := (maxX_spec hne).2
  have a := (h3 s hs).1
  have b := (h3 s' hs').1
  unfold insI at a b
  refine ⟨by unfold boxI; rw [if_pos h], by omega, by omega, width_pos h⟩

theorem few_loop (l : List (List S47)) (n : Nat) (hn : n ≤ 1000) (d : Nat) : ∀ i : Nat, i + d = min l.length n →
    ∃ b, Evt (fun k => garmentref37_Few.l0 k l (n : Int) (i : Int)) b ∧ (b = true → l.length ≤ n) := by
  induction d with
  | zero =>
    intro i hi
    refine ⟨decide ((l.length : Int) ≤ n), Evt.succ ?_, ?_⟩
    · simp only [garmentref37_Few.l0]
      by_cases h : i < l.length
      · refine Evt.pos (by omega) ?_
        rw [decide_eq_false (by omega)]
        refine Evt.succ ?_
        simp only [garmentref37_Few.j1]
        exact Evt.neg (by simp) (Evt.ret _)
      · refine Evt.neg (by omega) ?_
        refine Evt.succ ?_
        simp only [garmentref37_Few.j1]
        exact Evt.neg (by simp) (Evt.ret _)
    · intro h; simp at h; omega
  | succ d ih =>
    intro i hi
    have hr : Evt (fun k => garmentref37_Few.l0 k l (n : Int) (i : Int)) (if ((rd_L2 l (i : Int)).length : Int) > 50 then false else (ih (i + 1) (by omega)).choose) := by
      refine Evt.succ ?_
      simp only [garmentref37_Few.l0]
      refine Evt.pos (by omega) ?_
      rw [decide_eq_true (by omega)]
      refine Evt.succ ?_
      simp only [garmentref37_Few.j1]
      refine Evt.pos trivial (Evt.pos (by omega) (Evt.pos (by omega) ?_))
      by_cases h : ((rd_L2 l (i : Int)).length : Int) > 50
      · rw [if_pos h]; exact Evt.pos h (Evt.ret _)
      · rw [if_neg h]
        refine Evt.neg h ?_
        rw [wr1 (by omega)]
        exact (ih (i + 1) (by omega)).choose_spec.1
    refine ⟨_, hr, ?_⟩
    split
    · simp
    · exact (ih (i + 1) (by omega)).choose_spec.2

theorem few_ev (l : List (List S47)) (n : Nat) (hn : n ≤ 1000) : ∃ b, Evt (fun k => garmentref37_Few.f k l (n : Int)) b ∧ (b = true → l.length ≤ n) := by
  unfold garmentref37_Few.f
  exact few_loop l n hn (min l.length n) 0 (by omega)

theorem drop_getL (l : List (List S47)) {i : Nat} (h : i < l.length) : ptss (l.drop i) = pts l[i] :: ptss (l.drop (i + 1)) := by
  rw [List.drop_eq_getElem_cons h]; rfl

theorem extents_loop (len : Int) (h1 : 1 ≤ len) (h2 : len ≤ 1048576) (l : List (List S47)) (hl : l.length ≤ 60) (d : Nat) : ∀ (i : Nat) (acc : List S31), i + d = l.length → acc.length ≤ i →
    ∃ out, Evt (fun k => splice_extents.l0 k len acc l (l.length : Int) (i : Int)) (out, extErr len chk (ptss (l.drop i))) ∧
      (extErr len chk (ptss (l.drop i)) = 0 → zns out = zns acc ++ (ptss (l.drop i)).map zone) := by
  induction d with
  | zero =>
    intro i acc hi ha
    refine ⟨acc, Evt.succ ?_, ?_⟩
    · simp only [splice_extents.l0]
      refine Evt.neg (by omega) (Evt.cast ?_ (Evt.ret _))
      rw [List.drop_of_length_le (by omega)]; rfl
    · rw [List.drop_of_length_le (by omega)]; intro _; simp [ptss]
  | succ d ih =>
    intro i acc hi ha
    have hil : i < l.length := by omega
    have hbox := box_ev l[i]
    rw [drop_getL l hil]
    have start : ∀ r, Evt (fun k => if (boxI (pts l[i])).2.2.2.2 = 0 then (if (boxI (pts l[i])).1 < 0 then some (([] : List S31), (13 : Int)) else if wrap64 ((boxI (pts l[i])).1 + (boxI (pts l[i])).2.2.1) > len then some ([], 13) else
        if acc.length < 8796093022208 then splice_extents.l0 k len (acc ++ [⟨(boxI (pts l[i])).1, wrap64 ((boxI (pts l[i])).1 + (boxI (pts l[i])).2.2.1)⟩]) l (l.length : Int) (wrap64 ((i : Int) + 1)) else none) else some ([], (boxI (pts l[i])).2.2.2.2)) r →
        Evt (fun k => splice_extents.l0 k len acc l (l.length : Int) (i : Int)) r := by
      intro r hr
      refine Evt.succ ?_
      simp only [splice_extents.l0]
      refine Evt.pos (by omega) (Evt.pos (by omega) (Evt.pos (by omega) ?_))
      rw [rd_L l hil]
      exact Evt.bind hbox hr
    unfold extErr
    by_cases hc : chk (pts l[i]) = 0
    · obtain ⟨e, b1, b2, b3⟩ := valid_box hc
      rw [e] at start
      simp only at start
      rw [wr (x := minX (pts l[i]) + (maxX (pts l[i]) - minX (pts l[i]))) (by omega) (by omega), show minX (pts l[i]) + (maxX (pts l[i]) - minX (pts l[i])) = maxX (pts l[i]) by omega] at start
      rw [if_neg (show ¬ chk (pts l[i]) ≠ 0 by simpa using hc)]
      by_cases h3 : minX (pts l[i]) < 0
      · rw [if_pos (Or.inl h3)]
        exact ⟨[], start _ (Evt.pos trivial (Evt.pos h3 (Evt.ret _))), fun h => by simp at h⟩
      · by_cases h4 : maxX (pts l[i]) > len
        · rw [if_pos (Or.inr h4)]
          exact ⟨[], start _ (Evt.pos trivial (Evt.neg h3 (Evt.pos h4 (Evt.ret _)))), fun h => by simp at h⟩
        · rw [if_neg (by omega)]
          obtain ⟨out, ho, hz⟩ := ih (i + 1) (acc ++ [⟨minX (pts l[i]), maxX (pts l[i])⟩]) (by omega) (by simp; omega)
          refine ⟨out, start _ (Evt.pos trivial (Evt.neg h3 (Evt.neg h4 (Evt.pos (by omega) ?_)))), ?_⟩
          · rw [wr1 (by omega)]; exact ho
          · intro h; rw [hz h]; simp [zns, zn, zone]
    · rw [if_pos hc]
      have e : boxI (pts l[i]) = (0, 0, 0, 0, chk (pts l[i])) := by unfold boxI; rw [if_neg hc]
      rw [e] at start
      exact ⟨[], start _ (Evt.neg hc (Evt.ret _)), fun h => absurd h hc⟩

noncomputable def commonErr (len : Int) (l : List (List IP)) : Int := if len < 1 ∨ len > 1048576 then 3 else if 60 < l.length then 5 else extErr len chk l

theorem extents_ev (len : Int) (l : List (List S47)) : ∃ out, Evt (fun k => splice_extents.f k len l) (out, commonErr len (ptss l)) ∧
    (commonErr len (ptss l) = 0 → zns out = (ptss l).map zone) := by
  unfold commonErr
  rw [ptss_len]
  by_cases h1 : len < 1
  · refine ⟨[], ?_, fun h => by rw [if_pos (Or.inl h1)] at h; simp at h⟩
    rw [if_pos (Or.inl h1)]
    unfold splice_extents.f
    refine Evt.pos h1 (Evt.succ ?_)
    simp only [splice_extents.j0]
    exact Evt.pos trivial (Evt.ret _)
  by_cases h2 : len > 1048576
  · refine ⟨[], ?_, fun h => by rw [if_pos (Or.inr h2)] at h; simp at h⟩
    rw [if_pos (Or.inr h2)]
    unfold splice_extents.f
    refine Evt.neg h1 (Evt.succ ?_)
    simp only [splice_extents.j0]
    exact Evt.pos (by simpa using h2) (Evt.ret _)
  rw [if_neg (by omega)]
  have st : ∀ r, Evt (fun k => if (l.length : Int) > 60 then some (([] : List S31), (5 : Int)) else splice_extents.l0 k len [] l (l.length : Int) 0) r → Evt (fun k => splice_extents.f k len l) r := by
    intro r hr
    unfold splice_extents.f
    refine Evt.neg h1 (Evt.succ ?_)
    simp only [splice_extents.j0]
    exact Evt.neg (by simpa using h2) hr
  by_cases h3 : 60 < l.length
  · rw [if_pos h3]
    exact ⟨[], st _ (Evt.pos (by omega) (Evt.ret _)), fun h => by simp at h⟩
  · rw [if_neg h3]
    obtain ⟨out, ho, hz⟩ := extents_loop len (by omega) (by omega) l (by omega) l.length 0 [] (by omega) (by simp)
    exact ⟨out, st _ (Evt.neg (by omega) ho), by simpa [zns] using hz⟩

theorem rd_z0 (l : List S31) {i : Nat} (h : i < l.length) : zn (rd_T31 l (i : Int)) = (zns l)[i]'(by simp [zns]; exact h) := by
  unfold rd_T31 zns
  simp [List.getD, h]

theorem back_loop (hi : Int) (l : List S31) (hl : l.length ≤ 4000) (d : Nat) : ∀ (i : Nat) (m : Int), i + d = l.length →
    Evt (fun k => splice_back.l0 k hi m l (l.length : Int) (i : Int)) (((zns l).drop i).foldl (fun out z => if z.2 > hi then min out z.1 else out) m) := by
  induction d with
  | zero =>
    intro i m hi'
    refine Evt.succ ?_
    simp only [splice_back.l0]
    refine Evt.neg (by omega) (Evt.cast ?_ (Evt.ret _))
    rw [List.drop_of_length_le (by simp [zns]; omega)]; rfl
  | succ d ih =>
    intro i m hi'
    have hil : i < l.length := by omega
    have hz := rd_z0 l hil
    refine Evt.succ ?_
    simp only [splice_back.l0]
    refine Evt.pos (by omega) (Evt.pos (by omega) (Evt.pos (by omega) ?_))
    rw [List.drop_eq_getElem_cons (show i < (zns l).length by simp [zns]; exact hil), ← hz, List.foldl_cons]
    show Evt _ (((zns l).drop (i + 1)).foldl _ (if (rd_T31 l (i : Int)).f1 > hi then min m (rd_T31 l (i : Int)).f0 else m))
    rw [wr1 (by omega)]
    by_cases h : (rd_T31 l (i : Int)).f1 > hi
    · rw [if_pos h]
      refine Evt.pos h ?_
      rw [mn_min]
      exact ih (i + 1) _ (by omega)
    · rw [if_neg h]
      exact Evt.neg h (ih (i + 1) _ (by omega))

theorem back_ev (l : List S31) (hl : l.length ≤ 4000) (hi : Int) : Evt (fun k => splice_back.f k l hi) (backI (zns l) hi) := by
  unfold splice_back.f
  have := back_loop hi l hl l.length 0 hi (by omega)
  rw [List.drop_zero] at this
  exact this

noncomputable def BackI (len : Int) (l : List (List IP)) (hi : Int) : Int × Int :=
  if commonErr len l ≠ 0 then (0, commonErr len l) else if hi < 0 ∨ hi > len then (0, 3) else (backI (l.map zone) hi, 0)

theorem common_len {len : Int} {l : List (List IP)} (h : commonErr len l = 0) : 1 ≤ len ∧ len ≤ 1048576 ∧ l.length ≤ 60 ∧ ∀ P ∈ l, chk P = 0 ∧ 0 ≤ minX P ∧ maxX P ≤ len := by
  unfold commonErr at h
  split at h
  · simp at h
  · split at h
    · simp at h
    · exact ⟨by omega, by omega, by omega, extErr_zero.1 h⟩

theorem Back_ev (len : Int) (l : List (List S47)) (hi : Int) : Evt (fun k => splice_Back.f k len l hi) (BackI len (ptss l) hi) := by
  unfold splice_Back.f BackI
  obtain ⟨out, ho, hz⟩ := extents_ev len l
  refine Evt.bind ho ?_
  simp only
  by_cases h : commonErr len (ptss l) = 0
  · rw [if_neg (by simpa using h)]
    have hol : out.length ≤ 4000 := by
      have := congrArg List.length (hz h)
      have := (common_len h).2.2.1
      simp [zns, ptss] at *
      omega
    refine Evt.pos h ?_
    by_cases h1 : hi < 0
    · rw [if_pos (Or.inl h1)]; exact Evt.pos h1 (Evt.ret _)
    · by_cases h2 : hi > len
      · rw [if_pos (Or.inr h2)]; exact Evt.neg h1 (Evt.pos h2 (Evt.ret _))
      · rw [if_neg (by omega)]
        refine Evt.neg h1 (Evt.neg h2 ?_)
        rw [← hz h]
        exact Evt.bind (back_ev out hol hi) (Evt.ret _)
  · rw [if_pos h]
    exact Evt.neg h (Evt.ret _)

theorem box_four (a b : Int) : garmentlaw37_box.f a b = some [⟨a, 0⟩, ⟨b, 0⟩, ⟨b, 5⟩, ⟨a, 5⟩] := rfl

theorem awake_ev : Evt (fun k => garmentlaw37_awake.f k) true := by
  have h : garmentlaw37_awake.f 100 = some true := by decide +kernel
  refine ⟨100, fun k hk => ?_⟩
  obtain ⟨d, rfl⟩ : ∃ d, k = 100 + d := ⟨k - 100, by omega⟩
  clear hk
  induction d with
  | zero => exact h
  | succ d ih => exact garmentlaw37_awake.mono _ _ ih
--BEST
theorem Back_ok {len : Int} {L : List (List IP)} {hi : Int} (h : commonErr len L = 0) (h1 : 0 ≤ hi) (h2 : hi ≤ len) : BackI len L hi = (backI (L.map zone) hi, 0) := by
  unfold BackI
  rw [if_neg (by simpa using h), if_neg (by omega)]
theorem Back_err0 {len : Int} {L : List (List IP)} {hi : Int} (h : (BackI len L hi).2 = 0) : commonErr len L = 0 ∧ 0 ≤ hi ∧ hi ≤ len := by
  unfold BackI at h
  split at h
  · rename_i h1; exact absurd h h1
  · rename_i h1
    split at h
    · simp at h
    · exact ⟨by simpa using h1, by omega, by omega⟩

def ResI (l : List IP) (lo hi : Int) (T : List Int) (r : Int × Int × Int) : Prop :=
  (∃ z : IP, r = (z.1, z.2, 0) ∧ BestI l lo hi (· ∈ T) z ∧ z.2 ∈ T) ∨ (r = (0, 0, 18) ∧ ∀ t ∈ T, ¬ okI l lo hi t)
def InvI (l : List IP) (lo hi : Int) (T : List Int) (found : Bool) (z : IP) : Prop :=
  (found = true ∧ BestI l lo hi (· ∈ T) z ∧ z.2 ∈ T) ∨ (found = false ∧ ∀ t ∈ T, ¬ okI l lo hi t)

theorem best_loop (l : List S31) (hl : l.length ≤ 4000) (lo hi : Int) (hlo : 0 ≤ lo) (hhi : hi ≤ 1048576) (T : List Int) (hT : T.length ≤ 100000)
    (d : Nat) : ∀ (i : Nat) (found : Bool) (b0 b1 : Int), i + d = T.length → InvI (zns l) lo hi (T.take i) found (b0, b1) →
    ∃ r, Evt (fun k => splice_Best.l1 k lo hi l found T (T.length : Int) (i : Int) b0 b1) r ∧ ResI (zns l) lo hi T r := by
  induction d with
  | zero =>
    intro i found b0 b1 hi' hinv
    rw [List.take_of_length_le (by omega)] at hinv
    rcases hinv with ⟨rfl, hb, hm⟩ | ⟨rfl, hn⟩
    · refine ⟨(b0, b1, 0), Evt.succ ?_, Or.inl ⟨(b0, b1), rfl, hb, hm⟩⟩
      simp only [splice_Best.l1]
      exact Evt.neg (by omega) (Evt.pos trivial (Evt.ret _))
    · refine ⟨(0, 0, 18), Evt.succ ?_, Or.inr ⟨rfl, hn⟩⟩
      simp only [splice_Best.l1]
      exact Evt.neg (by omega) (Evt.neg (by simp) (Evt.ret _))
  | succ d ih =>
    intro i found b0 b1 hi' hinv
    have hil : i < T.length := by omega
    have hrd : rd T (i : Int) = T[i] := by unfold rd; simp [List.getD, hil]
    have htk : T.take (i + 1) = T.take i ++ [T[i]] := List.take_succ_eq_append_getElem hil
    generalize hh : T[i] = h at *
    -- the next state
    have go : ∀ (found' : Bool) (c0 c1 : Int), InvI (zns l) lo hi (T.take (i + 1)) found' (c0, c1) →
        (∀ r, Evt (fun k => splice_Best.l1 k lo hi l found' T (T.length : Int) (wrap64 ((i : Int) + 1)) c0 c1) r → Evt (fun k => splice_Best.l1 k lo hi l found T (T.length : Int) (i : Int) b0 b1) r) →
        ∃ r, Evt (fun k => splice_Best.l1 k lo hi l found T (T.length : Int) (i : Int) b0 b1) r ∧ ResI (zns l) lo hi T r := by
      intro found' c0 c1 h1 h2
      obtain ⟨r, hr, hres⟩ := ih (i + 1) found' c0 c1 (by omega) h1
      exact ⟨r, h2 r (by rw [wr1 (by omega)]; exact hr), hres⟩
    have keep : ¬ okI (zns l) lo hi h → InvI (zns l) lo hi (T.take (i + 1)) found (b0, b1) := by
      intro hno
      rw [htk]
      rcases hinv with ⟨rfl, hb, hm⟩ | ⟨rfl, hn⟩
      · refine Or.inl ⟨rfl, ⟨hb.1, hb.2.1, ?_⟩, by simp [hm]⟩
        intro t ht ok
        rcases List.mem_append.1 ht with ht | ht
        · exact hb.2.2 t ht ok
        · rw [List.mem_singleton.1 ht] at ok; exact absurd ok hno
      · refine Or.inr ⟨rfl, ?_⟩
        intro t ht
        rcases List.mem_append.1 ht with ht | ht
        · exact hn t ht
        · rw [List.mem_singleton.1 ht]; exact hno
    have enter : ∀ r, Evt (fun k => splice_Best.j3 k lo hi l found h T (T.length : Int) (i : Int) (decide (h < 0 ∨ h > hi)) b0 b1) r → Evt (fun k => splice_Best.l1 k lo hi l found T (T.length : Int) (i : Int) b0 b1) r := by
      intro r hr
      refine Evt.succ ?_
      simp only [splice_Best.l1]
      refine Evt.pos (by omega) (Evt.pos (by omega) (Evt.pos (by omega) ?_))
      rw [hrd]
      by_cases h0 : h < 0
      · refine Evt.pos h0 ?_
        rw [decide_eq_true (Or.inl h0)] at hr; exact hr
      · refine Evt.neg h0 ?_
        have : decide (h < 0 ∨ h > hi) = decide (h > hi) := by apply decide_eq_decide.2; omega
        rw [this] at hr; exact hr
    by_cases hout : h < 0 ∨ h > hi
    · refine go found b0 b1 (keep (by unfold okI; omega)) ?_
      intro r hr
      apply enter
      rw [decide_eq_true hout]
      refine Evt.succ ?_
      simp only [splice_Best.j3]
      exact Evt.pos trivial hr
    · rw [decide_eq_false hout] at enter
      have hb := back_ev l hl h
      have hbl := back_le (zns l) h
      generalize hB : backI (zns l) h = B at *
      by_cases hle : B ≤ lo
      · refine go found b0 b1 (keep (by unfold okI; omega)) ?_
        intro r hr
        apply enter
        refine Evt.succ ?_
        simp only [splice_Best.j3]
        refine Evt.neg (by simp) (Evt.bind hb (Evt.pos hle hr))
      · have ok : okI (zns l) lo hi h := ⟨by omega, by omega, by omega⟩
        rcases hinv with ⟨rfl, hbest, hm⟩ | ⟨rfl, hn⟩
        · have hk := hbest.1
          have e0 := hbest.2.1
          simp only at hk e0 hm
          have r1 := hk.1
          have r2 := hk.2.1
          have r3 := hk.2.2
          rw [← e0] at r3
          have r4 := back_le (zns l) b1
          rw [← e0] at r4
          have enter2 : ∀ r, Evt (fun k => if h - B - (b1 - b0) < 0 then splice_Best.l1 k lo hi l true T (T.length : Int) (wrap64 ((i : Int) + 1)) B h else
              if h - B - (b1 - b0) = 0 then (if h > b1 then splice_Best.l1 k lo hi l true T (T.length : Int) (wrap64 ((i : Int) + 1)) B h else splice_Best.l1 k lo hi l true T (T.length : Int) (wrap64 ((i : Int) + 1)) b0 b1) else splice_Best.l1 k lo hi l true T (T.length : Int) (wrap64 ((i : Int) + 1)) b0 b1) r →
              Evt (fun k => splice_Best.l1 k lo hi l true T (T.length : Int) (i : Int) b0 b1) r := by
            intro r hr
            apply enter
            refine Evt.succ ?_
            simp only [splice_Best.j3]
            refine Evt.neg (by simp) (Evt.bind hb (Evt.neg hle (Evt.pos trivial ?_)))
            rw [wr (x := h - B) (by omega) (by omega), wr (x := b1 - b0) (by omega) (by omega), wr (x := h - B - (b1 - b0)) (by omega) (by omega)]
            exact hr
          have better : (h - B < b1 - b0 ∨ (h - B = b1 - b0 ∧ h > b1)) → InvI (zns l) lo hi (T.take (i + 1)) true (B, h) := by
            intro hlt
            rw [htk]
            refine Or.inl ⟨rfl, ⟨ok, hB.symm, ?_⟩, by simp⟩
            intro t ht okt
            simp only
            rcases List.mem_append.1 ht with ht | ht
            · have := hbest.2.2 t ht okt
              simp only at this
              omega
            · rw [List.mem_singleton.1 ht, hB]; omega
          have same : ¬ (h - B < b1 - b0 ∨ (h - B = b1 - b0 ∧ h > b1)) → InvI (zns l) lo hi (T.take (i + 1)) true (b0, b1) := by
            intro hge
            rw [htk]
            refine Or.inl ⟨rfl, ⟨hbest.1, hbest.2.1, ?_⟩, by simp [hm]⟩
            intro t ht okt
            simp only
            rcases List.mem_append.1 ht with ht | ht
            · exact hbest.2.2 t ht okt
            · rw [List.mem_singleton.1 ht, hB]; omega
          by_cases c1 : h - B - (b1 - b0) < 0
          · exact go true B h (better (by omega)) (fun r hr => enter2 r (Evt.pos c1 hr))
          · by_cases c2 : h - B - (b1 - b0) = 0
            · by_cases c3 : h > b1
              · exact go true B h (better (by omega)) (fun r hr => enter2 r (Evt.neg c1 (Evt.pos c2 (Evt.pos c3 hr))))
              · exact go true b0 b1 (same (by omega)) (fun r hr => enter2 r (Evt.neg c1 (Evt.pos c2 (Evt.neg c3 hr))))
            · exact go true b0 b1 (same (by omega)) (fun r hr => enter2 r (Evt.neg c1 (Evt.neg c2 hr)))
        · refine go true B h ?_ ?_
          · rw [htk]
            refine Or.inl ⟨rfl, ⟨ok, hB.symm, ?_⟩, by simp⟩
            intro t ht okt
            simp only
            rcases List.mem_append.1 ht with ht | ht
            · exact absurd okt (hn t ht)
            · rw [List.mem_singleton.1 ht, hB]; omega
          · intro r hr
            apply enter
            refine Evt.succ ?_
            simp only [splice_Best.j3]
            exact Evt.neg (by simp) (Evt.bind hb (Evt.neg hle (Evt.neg (by simp) hr)))

theorem tried_loop (l : List S31) (hl : l.length ≤ 4000) (hz : ∀ z ∈ zns l, 0 ≤ z.1 ∧ z.1 < z.2 ∧ z.2 ≤ 1048576) (lo hi : Int) (hlo : 0 ≤ lo) (hhi : hi ≤ 1048576)
    (d : Nat) : ∀ (i : Nat), i + d = l.length →
    ∃ r, Evt (fun k => splice_Best.l0 k lo hi l (hi :: ((zns l).take i).flatMap fun z => [z.1, z.2 - 1, z.2]) l (l.length : Int) (i : Int)) r ∧ ResI (zns l) lo hi (triedI (zns l) hi) r := by
  have hzl : (zns l).length = l.length := by simp [zns]
  have lenf : ∀ m : List IP, (m.flatMap fun z => [z.1, z.2 - 1, z.2]).length = 3 * m.length := by
    intro m; induction m with
    | nil => rfl
    | cons a m ih => rw [List.flatMap_cons, List.length_append, ih]; simp; omega
  induction d with
  | zero =>
    intro i hi'
    rw [List.take_of_length_le (by omega)]
    obtain ⟨r, hr, hres⟩ := best_loop l hl lo hi hlo hhi (triedI (zns l) hi) (by unfold triedI; rw [List.length_cons, lenf]; omega) (triedI (zns l) hi).length 0 false 0 0 (by omega)
      (Or.inr ⟨rfl, by simp⟩)
    refine ⟨r, Evt.succ ?_, hres⟩
    simp only [splice_Best.l0]
    exact Evt.neg (by omega) hr
  | succ d ih =>
    intro i hi'
    have hil : i < l.length := by omega
    obtain ⟨r, hr, hres⟩ := ih (i + 1) (by omega)
    refine ⟨r, Evt.succ ?_, hres⟩
    simp only [splice_Best.l0]
    have e := rd_z0 l hil
    have hm := hz _ (List.getElem_mem (show i < (zns l).length by omega))
    rw [← e] at hm
    have ef0 : (rd_T31 l (i : Int)).f0 = (zn (rd_T31 l (i : Int))).1 := rfl
    have ef1 : (rd_T31 l (i : Int)).f1 = (zn (rd_T31 l (i : Int))).2 := rfl
    rw [ef0, ef1, wr (x := (zn (rd_T31 l (i : Int))).2 - 1) (by omega) (by omega), e]
    refine Evt.pos (by omega) (Evt.pos (by omega) (Evt.pos (by omega) (Evt.bindc rfl (Evt.pos ?_ ?_))))
    · rw [List.length_cons, lenf, List.length_take]; simp; omega
    · rw [wr1 (by omega), List.cons_append]
      rw [List.take_succ_eq_append_getElem (by omega), List.flatMap_append] at hr
      simpa using hr

theorem Best_ev (len : Int) (l : List (List S47)) (lo hi : Int) :
    ∃ r, Evt (fun k => splice_Best.f k len l lo hi) r ∧
      ((commonErr len (ptss l) ≠ 0 ∧ r = (0, 0, commonErr len (ptss l))) ∨
       (commonErr len (ptss l) = 0 ∧ (lo < 0 ∨ hi < lo ∨ hi > len) ∧ r = (0, 0, 3)) ∨
       (commonErr len (ptss l) = 0 ∧ 0 ≤ lo ∧ lo ≤ hi ∧ hi ≤ len ∧ ResI ((ptss l).map zone) lo hi (triedI ((ptss l).map zone) hi) r)) := by
  unfold splice_Best.f
  obtain ⟨out, ho, hz⟩ := extents_ev len l
  by_cases h : commonErr len (ptss l) = 0
  · obtain ⟨c1, c2, c3, c4⟩ := common_len h
    have hol : out.length ≤ 4000 := by
      have := congrArg List.length (hz h)
      simp [zns, ptss] at *
      omega
    by_cases h1 : lo < 0 ∨ hi < lo ∨ hi > len
    · refine ⟨(0, 0, 3), Evt.bind ho (Evt.pos h ?_), Or.inr (Or.inl ⟨h, h1, rfl⟩)⟩
      have fin : Evt (fun k => splice_Best.j0 k lo hi out true) (0, 0, 3) := by
        refine Evt.succ ?_
        simp only [splice_Best.j0]
        exact Evt.pos trivial (Evt.ret _)
      by_cases a1 : lo < 0
      · exact Evt.pos a1 fin
      · by_cases a2 : hi < lo
        · exact Evt.neg a1 (Evt.pos a2 fin)
        · refine Evt.neg a1 (Evt.neg a2 ?_)
          rw [decide_eq_true (by omega)]; exact fin
    · have hzz : ∀ z ∈ zns out, 0 ≤ z.1 ∧ z.1 < z.2 ∧ z.2 ≤ 1048576 := by
        intro z hz'
        rw [hz h] at hz'
        obtain ⟨P, hP, rfl⟩ := List.mem_map.1 hz'
        have := c4 P hP
        have := width_pos this.1
        exact ⟨by show 0 ≤ minX P; omega, this, by show maxX P ≤ _; omega⟩
      obtain ⟨r, hr, hres⟩ := tried_loop out hol hzz lo hi (by omega) (by omega) out.length 0 (by omega)
      rw [hz h] at hres
      refine ⟨r, Evt.bind ho (Evt.pos h (Evt.neg (by omega) (Evt.neg (by omega) ?_))), Or.inr (Or.inr ⟨h, by omega, by omega, by omega, hres⟩)⟩
      rw [decide_eq_false (by omega)]
      refine Evt.succ ?_
      simp only [splice_Best.j0]
      refine Evt.neg (by simp) ?_
      simpa using hr
  · exact ⟨(0, 0, commonErr len (ptss l)), Evt.bind ho (Evt.neg h (Evt.ret _)), Or.inl ⟨h, rfl⟩⟩
--ENDBEST
end Go.Proofs.Ytakefijfdgpdoaa.PSpliceRises
