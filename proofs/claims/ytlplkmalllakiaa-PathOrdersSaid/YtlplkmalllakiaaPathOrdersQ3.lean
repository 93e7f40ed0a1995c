/- Parts of the proof of PathOrders, joined: C41b, C41c, C41d, K11, Aw41, LPathOrders. -/
import Derived.Test.YtlplkmalllakiaaPathOrdersQ2
set_option linter.unusedVariables false
set_option linter.unusedSimpArgs false
section
/- Chapter 41: orders without repetition; the greedy order. -/
namespace Pl
open Go Geo Pm
/-- somebody is missing from what is shorter -/
theorem missing {n : Nat} {l : List Int} (h : l.length < n) : ∃ j, j < n ∧ ((j : Nat) : Int) ∉ l := by
  have key : ∀ (n : Nat) (l : List Int), l.length < n → ∃ j, j < n ∧ ((j : Nat) : Int) ∉ l := by
    intro n
    induction n with
    | zero => intro l h; omega
    | succ n ih =>
      intro l h
      by_cases hm : ((n : Nat) : Int) ∈ l
      · have hlt : (l.filter (fun k => decide (k ≠ ((n : Nat) : Int)))).length < l.length := by
          have := List.length_filter_le (fun k => decide (k ≠ ((n : Nat) : Int))) l
          by_cases he : (l.filter (fun k => decide (k ≠ ((n : Nat) : Int)))).length = l.length
          · have := List.length_filter_eq_length_iff.1 he _ hm
            simp at this
          · omega
        obtain ⟨j, h1, h2⟩ := ih (l.filter (fun k => decide (k ≠ ((n : Nat) : Int)))) (by omega)
        refine ⟨j, by omega, fun h3 => h2 (List.mem_filter.2 ⟨h3, by simp; omega⟩)⟩
      · exact ⟨n, by omega, hm⟩
  exact key n l h
theorem whole_nodup {order : List Int} {n : Nat} (h : Whole order n) : order.Nodup := by
  unfold List.Nodup
  rw [List.pairwise_iff_getElem]
  intro i j hi hj hij e
  have := (h.2 j (by rw [← h.1]; exact hj)).2
  rw [getD_eq hj, ← e] at this
  exact this (List.mem_take_iff_getElem.2 ⟨i, by omega, rfl⟩)
theorem whole_of {order : List Int} {n : Nat} (hl : order.length = n) (hn : order.Nodup) (hr : ∀ k ∈ order, 0 ≤ k ∧ k < (n : Int)) : Whole order n := by
  refine ⟨hl, fun j hj => ⟨hr _ (getD_in (by omega) 0), fun hm => ?_⟩⟩
  obtain ⟨i, hi, e⟩ := List.mem_take_iff_getElem.1 hm
  rw [getD_eq (by omega)] at e
  exact List.pairwise_iff_getElem.1 hn i j (by omega) (by omega) (by omega) e
/-- the nearest among the first i that are not yet cut, or -1 -/
def bestTo (polys : Polys) (out : List Int) (s : IP) : Nat → Int
  | 0 => -1
  | k + 1 => if ((k : Nat) : Int) ∈ out then bestTo polys out s k else if bestTo polys out s k < 0 then k else if dis s (ptA polys k) < dis s (ptA polys (bestTo polys out s k)) then k else bestTo polys out s k
theorem bestTo_spec (polys : Polys) (out : List Int) (s : IP) : ∀ i : Nat, (bestTo polys out s i = -1 ∧ ∀ k : Nat, k < i → ((k : Nat) : Int) ∈ out) ∨
    (0 ≤ bestTo polys out s i ∧ bestTo polys out s i < (i : Int) ∧ bestTo polys out s i ∉ out ∧ ∀ k : Nat, k < i → ((k : Nat) : Int) ∉ out → dis s (ptA polys (bestTo polys out s i)) < dis s (ptA polys k) ∨ (dis s (ptA polys (bestTo polys out s i)) = dis s (ptA polys k) ∧ bestTo polys out s i ≤ k))
  | 0 => Or.inl ⟨rfl, fun k h => by omega⟩
  | i + 1 => by
    have ih := bestTo_spec polys out s i
    by_cases hm : ((i : Nat) : Int) ∈ out
    · rw [show bestTo polys out s (i + 1) = bestTo polys out s i from if_pos hm]
      rcases ih with ⟨h1, h2⟩ | ⟨h1, h2, h3, h4⟩
      · refine Or.inl ⟨h1, fun k hk => ?_⟩
        by_cases e : k = i
        · rw [e]; exact hm
        · exact h2 k (by omega)
      · refine Or.inr ⟨h1, by omega, h3, fun k hk hn => ?_⟩
        by_cases e : k = i
        · rw [e] at hn; exact absurd hm hn
        · exact h4 k (by omega) hn
    · rcases ih with ⟨h1, h2⟩ | ⟨h1, h2, h3, h4⟩
      · have e : bestTo polys out s (i + 1) = ((i : Nat) : Int) := by
          show (if _ then _ else _) = _
          rw [if_neg hm, if_pos (by omega)]
        rw [e]
        refine Or.inr ⟨by omega, by omega, hm, fun k hk hn => ?_⟩
        by_cases e : k = i
        · rw [e]; exact Or.inr ⟨rfl, Int.le_refl _⟩
        · exact absurd (h2 k (by omega)) hn
      · by_cases hd : dis s (ptA polys i) < dis s (ptA polys (bestTo polys out s i))
        · have e : bestTo polys out s (i + 1) = ((i : Nat) : Int) := by
            show (if _ then _ else _) = _
            rw [if_neg hm, if_neg (by omega), if_pos hd]
          rw [e]
          refine Or.inr ⟨by omega, by omega, hm, fun k hk hn => ?_⟩
          by_cases e : k = i
          · rw [e]; exact Or.inr ⟨rfl, Int.le_refl _⟩
          · rcases h4 k (by omega) hn with h5 | h5
            · exact Or.inl (by omega)
            · exact Or.inl (by omega)
        · have e : bestTo polys out s (i + 1) = bestTo polys out s i := by
            show (if _ then _ else _) = _
            rw [if_neg hm, if_neg (by omega), if_neg hd]
          rw [e]
          refine Or.inr ⟨h1, by omega, h3, fun k hk hn => ?_⟩
          by_cases e : k = i
          · rw [e]
            by_cases h6 : dis s (ptA polys (bestTo polys out s i)) < dis s (ptA polys i)
            · exact Or.inl h6
            · exact Or.inr ⟨by omega, by omega⟩
          · exact h4 k (by omega) hn
/-- the greedy order -/
def gre (polys : Polys) : Nat → List Int → IP → List Int
  | 0, out, _ => out
  | m + 1, out, s => gre polys m (out ++ [bestTo polys out s polys.length]) (ptA polys (bestTo polys out s polys.length))
theorem best_ok {polys : Polys} {out : List Int} (s : IP) (h : out.length < polys.length) : 0 ≤ bestTo polys out s polys.length ∧ bestTo polys out s polys.length < (polys.length : Int) ∧ bestTo polys out s polys.length ∉ out := by
  rcases bestTo_spec polys out s polys.length with ⟨h1, h2⟩ | ⟨h1, h2, h3, _⟩
  · obtain ⟨j, hj, hn⟩ := missing h
    exact absurd (h2 j hj) hn
  · exact ⟨h1, h2, h3⟩
theorem indexI_lp {l : List Int} (hl : l.length < 4611686018427387904) (y : Int) : ∀ (m i : Nat), i + m = l.length → ∃ r, slices_Index_int_int_lp1 CG l y l y (l.length : Int) (i : Int) = some [.val tI r] ∧ (0 ≤ r ↔ y ∈ l.drop i)
  | 0, i, h => by
    refine ⟨-1, slices_Index_int_int_lp1_st _ _ _ _ _ _ (neg (ige (by omega)) rfl), ?_⟩
    rw [List.drop_of_length_le (by omega)]; simp
  | m + 1, i, h => by
    have hi : i < l.length := by omega
    rw [drop_cons hi]
    by_cases hc : y = l[i]
    · refine ⟨(i : Int), slices_Index_int_int_lp1_st _ _ _ _ _ _ ?_, ⟨fun _ => by rw [hc]; exact List.mem_cons_self, fun _ => Int.natCast_nonneg i⟩⟩
      rw [Int.toNat_natCast, getD_eq hi]
      exact pos (ilt hi) (pos (ixn hi) (pos (by simp [hc]) rfl))
    · obtain ⟨r, hr, h2⟩ := indexI_lp hl y m (i + 1) (by omega)
      refine ⟨r, slices_Index_int_int_lp1_st _ _ _ _ _ _ ?_, by rw [h2, List.mem_cons]; simp [hc]⟩
      rw [Int.toNat_natCast, getD_eq hi, wrS (by omega)]
      exact pos (ilt hi) (pos (ixn hi) (neg (by simp [hc]) hr))
theorem contains_ok {l : List Int} (hl : l.length < 4611686018427387904) (y : Int) : callT CG [.v .bool] 115 [.val (.sl tI) l, .val tI y] = some (decide (y ∈ l)) := by
  obtain ⟨r, hr, h2⟩ := indexI_lp hl y l.length 0 (by omega)
  refine callT_of (slices_Contains_int_int_st l y (r := [.val .bool (decide (y ∈ l))]) ?_) rfl
  refine bnd (callT_of (slices_Index_int_int_st l y hr) rfl) ?_
  rw [show decide (r ≥ (0 : Int)) = decide (y ∈ l) from decide_eq_decide.2 (by rw [ge_iff_le, h2, List.drop_zero])]
theorem greedy_lp2 {polys : Polys} (hg : GoodP polys) {out : List Int} {s : IP} (hs : insP s) {t : Nat} {res : R} (ho : out.length < polys.length)
    (hres : path_Greedy_lp1 CG polys polys (polys.length : Int) ((t + 1 : Nat) : Int) (ptA polys (bestTo polys out s polys.length)) (out ++ [bestTo polys out s polys.length]) = some res) (ht : t < 1000) : ∀ (m k : Nat), k + m = polys.length →
    path_Greedy_lp2 CG polys polys (bestTo polys out s k) (polys.length : Int) (t : Int) (polys.length : Int) (k : Int) s out = some res
  | 0, k, h => by
    obtain rfl : k = polys.length := by omega
    obtain ⟨b1, b2, b3⟩ := best_ok s ho
    obtain ⟨p1, p2⟩ := hg.at b1 b2
    have := hg.len
    refine path_Greedy_lp2_st _ _ _ _ _ _ _ _ _ (neg (ige (by omega)) (pos (by simp; omega) (pos ⟨b1, b2⟩ (pos (by omega) ?_))))
    rw [wrS (by omega)]
    exact hres
  | m + 1, k, h => by
    have hk : k < polys.length := by omega
    have := hg.len
    have ih := greedy_lp2 hg hs ho hres ht m (k + 1) (by omega)
    refine path_Greedy_lp2_st _ _ _ _ _ _ _ _ _ ?_
    rw [wrS (by omega), Int.toNat_natCast]
    refine pos (ilt hk) (bnd (contains_ok (by omega) _) ?_)
    by_cases hm : ((k : Nat) : Int) ∈ out
    · rw [show bestTo polys out s (k + 1) = bestTo polys out s k from if_pos hm] at ih
      exact pos (dt hm) ih
    refine neg (df hm) ?_
    by_cases hb : bestTo polys out s k < 0
    · rw [show bestTo polys out s (k + 1) = ((k : Nat) : Int) from (if_neg hm).trans (if_pos hb)] at ih
      exact pos (dt hb) ih
    · refine neg (df hb) ?_
      have hb2 : bestTo polys out s k < (k : Int) := by
        rcases bestTo_spec polys out s k with h1 | h1
        · omega
        · exact h1.2.1
      obtain ⟨p1, p2⟩ := hg.at (k := ((k : Nat) : Int)) (by omega) (by omega)
      obtain ⟨q1, q2⟩ := hg.at (k := bestTo polys out s k) (by omega) (by omega)
      rw [Int.toNat_natCast] at p1
      refine pos (ixn hk) (pos (by omega) (bnd (v := dis s (ptA polys ((k : Nat) : Int))) (dist_ok hs p2) (pos (by omega) (pos (by omega) (bnd (v := dis s (ptA polys (bestTo polys out s k))) (dist_ok hs q2) ?_)))))
      by_cases hd : dis s (ptA polys k) < dis s (ptA polys (bestTo polys out s k))
      · rw [show bestTo polys out s (k + 1) = ((k : Nat) : Int) from (if_neg hm).trans ((if_neg hb).trans (if_pos hd))] at ih
        exact pos (dt hd) ih
      · rw [show bestTo polys out s (k + 1) = bestTo polys out s k from (if_neg hm).trans ((if_neg hb).trans (if_neg hd))] at ih
        exact neg (df hd) ih
theorem greedy_lp1 {polys : Polys} (hg : GoodP polys) : ∀ (m : Nat) (out : List Int) (s : IP), out.length + m = polys.length → insP s →
    path_Greedy_lp1 CG polys polys (polys.length : Int) (out.length : Int) s out = some [.own tI (gre polys m out s), .val tI 0]
  | 0, out, s, h, hs => path_Greedy_lp1_st _ _ _ _ _ _ (neg (ige (by omega)) rfl)
  | m + 1, out, s, h, hs => by
    have := hg.len
    obtain ⟨b1, b2, b3⟩ := best_ok s (show out.length < polys.length by omega)
    refine path_Greedy_lp1_st _ _ _ _ _ _ (pos (ilt (by omega)) ?_)
    have ih := greedy_lp1 hg m (out ++ [bestTo polys out s polys.length]) (ptA polys (bestTo polys out s polys.length)) (by simp; omega) (hg.at b1 b2).2
    rw [List.length_append, List.length_singleton] at ih
    exact greedy_lp2 hg hs (by omega) ih (by omega) polys.length 0 (by omega)
noncomputable def greE (polys : Polys) : List Int := if chkP polys = 0 then gre polys polys.length [] (0, 0) else []
theorem greedy_ok (polys : Polys) : callT CG [.o tI, .v tI] 108 [.val (.sl (.sl t0)) polys] = some (greE polys, chkP polys) := by
  refine callT_of (path_Greedy_st polys (r := [.own tI (greE polys), .val tI (chkP polys)]) ?_) rfl
  refine bnd (pcheck_ok polys) ?_
  unfold greE
  by_cases h : chkP polys = 0
  · rw [if_pos h, h]
    exact neg (by simp) (greedy_lp1 (goodP h) polys.length [] (0, 0) (by simp) insP0)
  · rw [if_neg h]
    exact pos (nn0 h) rfl
theorem seenL_set {out : List Int} {n k : Nat} : ((List.range n).map fun j => decide (((j : Nat) : Int) ∈ out)).set k true = (List.range n).map fun j => decide (((j : Nat) : Int) ∈ out ++ [((k : Nat) : Int)]) := by
  apply List.ext_getElem
  · simp
  · intro j h1 h2
    rw [List.getElem_set]
    simp only [List.getElem_map, List.getElem_range]
    by_cases e : k = j
    · rw [if_pos e, e]; simp
    · rw [if_neg e, decide_eq_decide, List.mem_append]
      constructor
      · exact Or.inl
      · rintro (h | h)
        · exact h
        · simp at h; omega
theorem rgreedy_lp2 {polys : Polys} (hg : GoodP polys) {out : List Int} {s : IP} (hs : insP s) {t : Nat} {res : R} (ho : out.length < polys.length)
    (hres : garmentref41_Greedy_lp1 CG polys polys ((t + 1 : Nat) : Int) (out ++ [bestTo polys out s polys.length]) ((List.range polys.length).map fun j => decide (((j : Nat) : Int) ∈ out ++ [bestTo polys out s polys.length])) (ptA polys (bestTo polys out s polys.length)) = some res) (ht : t < 1000) : ∀ (m k : Nat), k + m = polys.length →
    garmentref41_Greedy_lp2 CG polys polys (t : Int) (bestTo polys out s k) (k : Int) out ((List.range polys.length).map fun j => decide (((j : Nat) : Int) ∈ out)) s = some res
  | 0, k, h => by
    obtain rfl : k = polys.length := by omega
    obtain ⟨b1, b2, b3⟩ := best_ok s ho
    obtain ⟨p1, p2⟩ := hg.at b1 b2
    have := hg.len
    refine garmentref41_Greedy_lp2_st _ _ _ _ _ _ _ _ (neg (ige (by omega)) (pos (by simp; omega) (pos (by simp; omega) (pos ⟨b1, b2⟩ (pos (by omega) ?_)))))
    rw [wrS (by omega)]
    obtain ⟨k, hk⟩ : ∃ k : Nat, bestTo polys out s polys.length = (k : Int) := ⟨(bestTo polys out s polys.length).toNat, by omega⟩
    have e : ((List.range polys.length).map fun j => decide (((j : Nat) : Int) ∈ out)).set (bestTo polys out s polys.length).toNat true = (List.range polys.length).map fun j => decide (((j : Nat) : Int) ∈ out ++ [bestTo polys out s polys.length]) := by
      rw [hk, Int.toNat_natCast]; exact seenL_set
    rw [e]
    exact hres
  | m + 1, k, h => by
    have hk : k < polys.length := by omega
    have := hg.len
    have ih := rgreedy_lp2 hg hs ho hres ht m (k + 1) (by omega)
    refine garmentref41_Greedy_lp2_st _ _ _ _ _ _ _ _ ?_
    rw [wrS (by omega), Int.toNat_natCast, range_getD (fun j => decide (((j : Nat) : Int) ∈ out)) hk]
    refine pos (ilt hk) (pos (by simp; omega) ?_)
    by_cases hm : ((k : Nat) : Int) ∈ out
    · rw [show bestTo polys out s (k + 1) = bestTo polys out s k from if_pos hm] at ih
      exact neg (by simp [hm]) ih
    refine pos (by simp [hm]) ?_
    by_cases hb : bestTo polys out s k < 0
    · rw [show bestTo polys out s (k + 1) = ((k : Nat) : Int) from (if_neg hm).trans (if_pos hb)] at ih
      exact pos (dt hb) ih
    · refine neg (df hb) ?_
      have hb2 : bestTo polys out s k < (k : Int) := by
        rcases bestTo_spec polys out s k with h1 | h1
        · omega
        · exact h1.2.1
      obtain ⟨p1, p2⟩ := hg.at (k := ((k : Nat) : Int)) (by omega) (by omega)
      obtain ⟨q1, q2⟩ := hg.at (k := bestTo polys out s k) (by omega) (by omega)
      rw [Int.toNat_natCast] at p1
      refine pos (ixn hk) (pos (by omega) (bnd (v := dis s (ptA polys ((k : Nat) : Int))) (rdist_ok hs p2) (pos (by omega) (pos (by omega) (bnd (v := dis s (ptA polys (bestTo polys out s k))) (rdist_ok hs q2) ?_)))))
      by_cases hd : dis s (ptA polys k) < dis s (ptA polys (bestTo polys out s k))
      · rw [show bestTo polys out s (k + 1) = ((k : Nat) : Int) from (if_neg hm).trans ((if_neg hb).trans (if_pos hd))] at ih
        exact pos (dt hd) ih
      · rw [show bestTo polys out s (k + 1) = bestTo polys out s k from (if_neg hm).trans ((if_neg hb).trans (if_neg hd))] at ih
        exact neg (df hd) ih
theorem rgreedy_lp1 {polys : Polys} (hg : GoodP polys) : ∀ (m : Nat) (out : List Int) (s : IP), out.length + m = polys.length → insP s →
    garmentref41_Greedy_lp1 CG polys polys (out.length : Int) out ((List.range polys.length).map fun j => decide (((j : Nat) : Int) ∈ out)) s = some [.own tI (gre polys m out s), .val tI 0]
  | 0, out, s, h, hs => garmentref41_Greedy_lp1_st _ _ _ _ _ _ (neg (ige (by omega)) rfl)
  | m + 1, out, s, h, hs => by
    have := hg.len
    obtain ⟨b1, b2, b3⟩ := best_ok s (show out.length < polys.length by omega)
    refine garmentref41_Greedy_lp1_st _ _ _ _ _ _ (pos (ilt (by omega)) ?_)
    have ih := rgreedy_lp1 hg m (out ++ [bestTo polys out s polys.length]) (ptA polys (bestTo polys out s polys.length)) (by simp; omega) (hg.at b1 b2).2
    rw [List.length_append, List.length_singleton] at ih
    exact rgreedy_lp2 hg hs (by omega) ih (by omega) polys.length 0 (by omega)
theorem rgreedy_ok (polys : Polys) : callT CG [.o tI, .v tI] 127 [.val (.sl (.sl t0)) polys] = some (greE polys, chkP polys) := by
  refine callT_of (garmentref41_Greedy_st polys (r := [.own tI (greE polys), .val tI (chkP polys)]) ?_) rfl
  refine bnd (rpcheck_ok polys) ?_
  unfold greE
  by_cases h : chkP polys = 0
  · rw [if_pos h, h]
    have := (goodP h).len
    refine neg (by simp) (pos (by omega) ?_)
    have := rgreedy_lp1 (goodP h) polys.length [] (0, 0) (by simp) insP0
    have e : ((List.range polys.length).map fun j => decide (((j : Nat) : Int) ∈ ([] : List Int))) = List.replicate (Int.toNat (polys.length : Int)) false := by
      rw [Int.toNat_natCast]; apply List.ext_getElem <;> simp
    rw [e] at this
    exact this
  · rw [if_neg h]
    exact pos (nn0 h) rfl
theorem gre_app (polys : Polys) : ∀ (m : Nat) (out : List Int) (s : IP), ∃ l, gre polys m out s = out ++ l ∧ l.length = m
  | 0, out, s => ⟨[], by simp [gre], rfl⟩
  | m + 1, out, s => by
    obtain ⟨l, h1, h2⟩ := gre_app polys m (out ++ [bestTo polys out s polys.length]) (ptA polys (bestTo polys out s polys.length))
    exact ⟨bestTo polys out s polys.length :: l, by rw [gre, h1]; simp, by simp [h2]⟩
theorem gre_whole (polys : Polys) : ∀ (m : Nat) (out : List Int) (s : IP), out.length + m = polys.length → out.Nodup → InR polys out → (gre polys m out s).Nodup ∧ InR polys (gre polys m out s)
  | 0, out, s, _, h1, h2 => ⟨h1, h2⟩
  | m + 1, out, s, h, h1, h2 => by
    obtain ⟨b1, b2, b3⟩ := best_ok s (show out.length < polys.length by omega)
    refine gre_whole polys m _ _ (by simp; omega) ?_ fun k hk => ?_
    · rw [List.nodup_append]
      exact ⟨h1, List.nodup_cons.2 ⟨by simp, List.nodup_nil⟩, fun a ha b hb e => b3 (by rw [List.mem_singleton.1 hb] at e; rw [← e]; exact ha)⟩
    · rcases List.mem_append.1 hk with hk | hk
      · exact h2 k hk
      · rw [List.mem_singleton.1 hk]; exact ⟨b1, b2⟩
theorem greE_whole {polys : Polys} (h : chkP polys = 0) : Whole (greE polys) polys.length := by
  unfold greE
  rw [if_pos h]
  obtain ⟨l, h1, h2⟩ := gre_app polys polys.length [] (0, 0)
  obtain ⟨h3, h4⟩ := gre_whole polys polys.length [] (0, 0) (by simp) List.nodup_nil (fun k hk => by cases hk)
  exact whole_of (by rw [h1]; simpa using h2) h3 h4
end Pl
end
section
/- Chapter 41: what turning a part round gains; the improved order. -/
namespace Pl
open Go Geo Pm
/-- the ways between those of a list -/
def inn (polys : Polys) : List Int → Int
  | a :: b :: l => dis (ptA polys a) (ptA polys b) + inn polys (b :: l)
  | _ => 0
theorem inn_two (polys : Polys) (a b : Int) (l : List Int) : inn polys (a :: b :: l) = dis (ptA polys a) (ptA polys b) + inn polys (b :: l) := rfl
theorem inn_snoc (polys : Polys) (A : List Int) (x y : Int) : inn polys (A ++ [x] ++ [y]) = inn polys (A ++ [x]) + dis (ptA polys x) (ptA polys y) := by
  induction A with
  | nil => show dis _ _ + 0 = 0 + dis _ _; omega
  | cons a A ih =>
    cases A with
    | nil => show dis _ _ + (dis _ _ + 0) = (dis _ _ + 0) + dis _ _; omega
    | cons b A =>
      simp only [List.cons_append, inn_two] at ih ⊢
      rw [ih]; omega
theorem inn_rev (polys : Polys) (L : List Int) : inn polys L.reverse = inn polys L := by
  induction L with
  | nil => rfl
  | cons a L ih =>
    cases L with
    | nil => rfl
    | cons b L =>
      rw [List.reverse_cons, List.reverse_cons, inn_snoc, ← List.reverse_cons, ih, dis_symm, inn_two]; omega
theorem tr_inn (polys : Polys) : ∀ (L : List Int) (s : IP) (a : Int), tr polys s (a :: L) = dis s (ptA polys a) + inn polys (a :: L)
  | [], s, a => rfl
  | b :: L, s, a => by
    rw [inn_two]
    show dis s (ptA polys a) + tr polys (ptA polys a) (b :: L) = _
    rw [tr_inn polys L (ptA polys a) b]
/-- where a way ends -/
def endA (polys : Polys) (s : IP) : List Int → IP
  | [] => s
  | k :: l => endA polys (ptA polys k) l
theorem tr_app (polys : Polys) : ∀ (A B : List Int) (s : IP), tr polys s (A ++ B) = tr polys s A + tr polys (endA polys s A) B
  | [], B, s => by simp [tr, endA]
  | a :: A, B, s => by
    show dis s (ptA polys a) + tr polys (ptA polys a) (A ++ B) = _
    rw [tr_app polys A B]
    show _ = dis s (ptA polys a) + tr polys (ptA polys a) A + tr polys (endA polys (ptA polys a) A) B
    omega
theorem endA_snoc (polys : Polys) : ∀ (A : List Int) (s : IP) (x : Int), endA polys s (A ++ [x]) = ptA polys x
  | [], s, x => rfl
  | a :: A, s, x => endA_snoc polys A (ptA polys a) x
/-- a part turned round -/
def turnd (o : List Int) (i k : Nat) : List Int := o.take i ++ (((o.take (k + 1)).drop i).reverse ++ o.drop (k + 1))
/-- by how much the way becomes shorter -/
def gn (polys : Polys) (o : List Int) (i k : Nat) : Int :=
  let s := if 0 < i then ptA polys (o.getD (i - 1) 0) else (0, 0)
  let a := ptA polys (o.getD i 0)
  let b := ptA polys (o.getD k 0)
  (dis s a - dis s b) + (if k + 1 < o.length then dis b (ptA polys (o.getD (k + 1) 0)) - dis a (ptA polys (o.getD (k + 1) 0)) else 0)
theorem mid_ends {o : List Int} {i k : Nat} (hik : i ≤ k) (hk : k < o.length) : ∃ M N, (o.take (k + 1)).drop i = o.getD i 0 :: M ∧ (o.take (k + 1)).drop i = N ++ [o.getD k 0] := by
  refine ⟨(o.take (k + 1)).drop (i + 1), (o.take k).drop i, ?_, ?_⟩
  · rw [drop_cons (by rw [List.length_take]; omega), getD_eq (by omega)]
    congr 1
    exact List.getElem_take
  · rw [List.take_succ_eq_append_getElem hk, List.drop_append_of_le_length (by rw [List.length_take]; omega), getD_eq hk]
theorem gain_tr {polys : Polys} {o : List Int} {i k : Nat} (hik : i ≤ k) (hk : k < o.length) : tr polys (0, 0) o - tr polys (0, 0) (turnd o i k) = gn polys o i k := by
  obtain ⟨M, N, h1, h2⟩ := mid_ends hik hk
  have e1 : o = o.take i ++ ((o.take (k + 1)).drop i ++ o.drop (k + 1)) := by
    have a1 : o.take i = (o.take (k + 1)).take i := by rw [List.take_take]; congr 1; omega
    rw [← List.append_assoc, a1, List.take_append_drop, List.take_append_drop]
  have hs : endA polys (0, 0) (o.take i) = if 0 < i then ptA polys (o.getD (i - 1) 0) else (0, 0) := by
    by_cases h0 : 0 < i
    · rw [if_pos h0]
      have : o.take i = o.take (i - 1) ++ [o.getD (i - 1) 0] := by
        rw [getD_eq (by omega), ← List.take_succ_eq_append_getElem (by omega)]
        congr 1; omega
      rw [this, endA_snoc]
    · rw [if_neg h0, show i = 0 by omega]; rfl
  unfold turnd gn
  rw [show tr polys (0, 0) o = tr polys (0, 0) (o.take i ++ ((o.take (k + 1)).drop i ++ o.drop (k + 1))) by rw [← e1]]
  rw [tr_app polys (o.take i), tr_app polys (o.take i), hs]
  generalize (if 0 < i then ptA polys (o.getD (i - 1) 0) else (0, 0)) = s
  rw [tr_app, tr_app]
  have ha : (o.take (k + 1)).drop i = o.getD i 0 :: M := h1
  have t1 : tr polys s ((o.take (k + 1)).drop i) = dis s (ptA polys (o.getD i 0)) + inn polys ((o.take (k + 1)).drop i) := by rw [h1, tr_inn]
  have t2 : tr polys s ((o.take (k + 1)).drop i).reverse = dis s (ptA polys (o.getD k 0)) + inn polys ((o.take (k + 1)).drop i) := by
    rw [← inn_rev polys ((o.take (k + 1)).drop i), h2, List.reverse_append]
    show tr polys s (o.getD k 0 :: N.reverse) = _
    rw [tr_inn]; rfl
  have t3 : endA polys s ((o.take (k + 1)).drop i) = ptA polys (o.getD k 0) := by rw [h2, endA_snoc]
  have t4 : endA polys s ((o.take (k + 1)).drop i).reverse = ptA polys (o.getD i 0) := by rw [h1, List.reverse_cons, endA_snoc]
  rw [t1, t2, t3, t4]
  dsimp only
  by_cases hc : k + 1 < o.length
  · rw [if_pos hc, drop_cons hc, getD_eq hc 0]
    simp only [tr]
    omega
  · rw [if_neg hc, List.drop_of_length_le (show o.length ≤ k + 1 by omega)]
    simp only [tr]
    omega
theorem turnd_len {o : List Int} {i k : Nat} (hik : i ≤ k) (hk : k < o.length) : (turnd o i k).length = o.length := by
  unfold turnd
  simp only [List.length_append, List.length_reverse, List.length_drop, List.length_take]
  omega
theorem turnd_perm {o : List Int} {i k : Nat} (hik : i ≤ k) (hk : k < o.length) : (turnd o i k).Perm o := by
  have e1 : o = o.take i ++ ((o.take (k + 1)).drop i ++ o.drop (k + 1)) := by
    have a1 : o.take i = (o.take (k + 1)).take i := by rw [List.take_take]; congr 1; omega
    rw [← List.append_assoc, a1, List.take_append_drop, List.take_append_drop]
  unfold turnd
  conv => rhs; rw [e1]
  exact (List.Perm.append_left _ ((List.reverse_perm _).append_right _))
theorem turnd_whole {o : List Int} {n i k : Nat} (h : Whole o n) (hik : i ≤ k) (hk : k < o.length) : Whole (turnd o i k) n := by
  have hp := turnd_perm hik hk
  refine whole_of (by rw [turnd_len hik hk]; exact h.1) (hp.nodup_iff.2 (whole_nodup h)) fun x hx => ?_
  have hx := hp.mem_iff.1 hx
  obtain ⟨j, hj, rfl⟩ := List.mem_iff_getElem.1 hx
  have := (h.2 j (by rw [← h.1]; exact hj)).1
  rwa [getD_eq hj] at this
theorem gn_w {a b c d : Int} (h1 : 0 ≤ a ∧ a ≤ 4194304) (h2 : 0 ≤ b ∧ b ≤ 4194304) (h3 : 0 ≤ c ∧ c ≤ 4194304) (h4 : 0 ≤ d ∧ d ≤ 4194304) : wr .i64 (wr .i64 (a - b) + wr .i64 (c - d)) = (a - b) + (c - d) := by
  rw [wr64 (x := a - b) (by omega) (by omega), wr64 (x := c - d) (by omega) (by omega), wr64 (by omega) (by omega)]
theorem gain_ok {polys : Polys} {o : List Int} (hg : GoodP polys) (hw : Whole o polys.length) {i k : Nat} (hik : i < k) (hk : k < o.length) : callT CG [.v tI] 118 [.val (.sl (.sl t0)) polys, .val (.sl tI) o, .val tI ((i : Nat) : Int), .val tI ((k : Nat) : Int)] = some (gn polys o i k) := by
  refine callT_of (path_gain_st polys o i k (r := [.val tI (gn polys o i k)]) ?_) rfl
  have hr := whole_inR hw
  have hlen := hg.len
  have hol := hw.1
  have at' : ∀ j, j < o.length → (0 ≤ o.getD j 0 ∧ o.getD j 0 < (polys.length : Int)) ∧ 0 < (polys.getD (o.getD j 0).toNat []).length ∧ insP (ptA polys (o.getD j 0)) := fun j hj => by
    have h := hr _ (getD_in hj 0)
    exact ⟨h, hg.at h.1 h.2⟩
  obtain ⟨a1, a2, a3⟩ := at' i (by omega)
  obtain ⟨b1, b2, b3⟩ := at' k hk
  have db : ∀ {x y : IP}, insP x → insP y → 0 ≤ dis x y ∧ dis x y ≤ 4194304 := fun hx hy => ⟨dis_nn _ _, dis_bound hx hy⟩
  unfold gn
  by_cases h0 : 0 < i
  · obtain ⟨c1, c2, c3⟩ := at' (i - 1) (by omega)
    refine pos (dt (by omega)) ?_
    rw [wr64 (x := (i : Int) - 1) (by omega) (by omega), show (i : Int) - 1 = ((i - 1 : Nat) : Int) by omega, wrS (by omega)]
    simp only [Int.toNat_natCast]
    rw [if_pos h0]
    refine pos (by omega) (pos c1 (pos (by omega) (pos (by omega) (pos a1 (pos (by omega) (pos (by omega) (pos b1 (pos (by omega) (bnd (v := dis (ptA polys (o.getD (i - 1) 0)) (ptA polys (o.getD i 0))) (dist_ok c3 a3) (bnd (v := dis (ptA polys (o.getD (i - 1) 0)) (ptA polys (o.getD k 0))) (dist_ok c3 b3) ?_))))))))))
    by_cases h1 : k + 1 < o.length
    · obtain ⟨d1, d2, d3⟩ := at' (k + 1) h1
      refine pos (dt (by omega)) (pos (by omega) (pos d1 (pos (by omega) (bnd (v := dis (ptA polys (o.getD k 0)) (ptA polys (o.getD (k + 1) 0))) (dist_ok b3 d3) (bnd (v := dis (ptA polys (o.getD i 0)) (ptA polys (o.getD (k + 1) 0))) (dist_ok a3 d3) ?_)))))
      rw [gn_w (db c3 a3) (db c3 b3) (db b3 d3) (db a3 d3), if_pos h1]
    · refine neg (df (by omega)) ?_
      have := db c3 a3
      have := db c3 b3
      rw [if_neg h1, wr64 (by omega) (by omega), Int.add_zero]
  · refine neg (df (by omega)) ?_
    rw [wrS (by omega)]
    simp only [Int.toNat_natCast]
    rw [if_neg h0]
    refine pos (by omega) (pos a1 (pos (by omega) (pos (by omega) (pos b1 (pos (by omega) (bnd (v := dis (0, 0) (ptA polys (o.getD i 0))) (dist_ok insP0 a3) (bnd (v := dis (0, 0) (ptA polys (o.getD k 0))) (dist_ok insP0 b3) ?_)))))))
    by_cases h1 : k + 1 < o.length
    · obtain ⟨d1, d2, d3⟩ := at' (k + 1) h1
      refine pos (dt (by omega)) (pos (by omega) (pos d1 (pos (by omega) (bnd (v := dis (ptA polys (o.getD k 0)) (ptA polys (o.getD (k + 1) 0))) (dist_ok b3 d3) (bnd (v := dis (ptA polys (o.getD i 0)) (ptA polys (o.getD (k + 1) 0))) (dist_ok a3 d3) ?_)))))
      rw [gn_w (db insP0 a3) (db insP0 b3) (db b3 d3) (db a3 d3), if_pos h1]
    · refine neg (df (by omega)) ?_
      have := db insP0 a3
      have := db insP0 b3
      rw [if_neg h1, wr64 (by omega) (by omega), Int.add_zero]
theorem revI_lp {l : List Int} (hl : l.length < 4611686018427387904) : ∀ (m i : Nat), l.length ≤ 2 * i + m → 2 * i ≤ l.length + 1 →
    slices_Reverse_int_int_lp1 CG l (i : Int) ((l.length : Int) - 1 - i) (swp l 0 i) = some [.own tI l.reverse]
  | 0, i, h, h2 => by
    refine slices_Reverse_int_int_lp1_st _ _ _ _ ?_
    refine neg (df (by omega)) ?_
    rw [swp_end _ _ _ (by omega)]
  | m + 1, i, h, h2 => by
    refine slices_Reverse_int_int_lp1_st _ _ _ _ ?_
    rw [List.length_set, swp_len]
    by_cases hc : 2 * i + 1 < l.length
    · refine pos (dt (by omega)) (pos (by omega) (pos (by omega) (pos (by omega) (pos (by omega) ?_))))
      rw [wrS (by omega), wr64 (by omega) (by omega), show (l.length : Int) - 1 - i = ((l.length - 1 - i : Nat) : Int) by omega, Int.toNat_natCast, Int.toNat_natCast, swp_step l _ i hc, show ((l.length - 1 - i : Nat) : Int) - 1 = (l.length : Int) - 1 - ((i + 1 : Nat) : Int) by omega]
      exact revI_lp hl m (i + 1) (by omega) (by omega)
    · refine neg (df (by omega)) ?_
      rw [swp_end _ _ _ (by omega)]
theorem reverseI_ok {l : List Int} (hl : l.length < 4611686018427387904) : callT CG [.o tI] 119 [.own tI l] = some l.reverse := by
  refine callT_of (slices_Reverse_int_int_st l (r := [.own tI l.reverse]) ?_) rfl
  rw [wr64 (by omega) (by omega)]
  have := revI_lp hl l.length 0 (by omega) (by omega)
  rw [swp0] at this
  simpa using this
theorem grow_ok {n : Nat} (hn : n < 17592186044416) : callT CG [.o tI] 121 [.nil, .val tI ((n : Nat) : Int)] = some [] := by
  refine callT_of (slices_Grow_int_int_st (n : Int) (r := [.own tI []]) ?_) rfl
  have e : wr .i64 ((n : Int) - wr .i64 ((0 : Int) - ((0 : Nat) : Int))) = (n : Int) := by
    rw [wr64 (x := (0 : Int) - ((0 : Nat) : Int)) (by omega) (by omega), wr64 (by omega) (by omega)]; omega
  rw [e]
  refine neg (df (by omega)) ?_
  by_cases h : 0 < n
  · refine pos (dt (by omega)) (pos (by simp) (pos (by omega) (pos (by simp) ?_)))
    simp
  · exact neg (df (by omega)) rfl
theorem concat_lp2 {ls : List (List Int)} (hl : ls.length < 1000) (hs : ls.flatten.length < 17592186044416) : ∀ (m i : Nat), i + m = ls.length →
    slices_Concat_int_int_lp2 CG ls ls (ls.length : Int) (i : Int) (ls.take i).flatten = some [.own tI ls.flatten]
  | 0, i, h => by
    refine slices_Concat_int_int_lp2_st _ _ _ _ _ (neg (ige (by omega)) ?_)
    rw [List.take_of_length_le (by omega)]
  | m + 1, i, h => by
    have hi : i < ls.length := by omega
    have ih := concat_lp2 hl hs m (i + 1) (by omega)
    rw [List.take_succ_eq_append_getElem hi, List.flatten_append, List.flatten_singleton] at ih
    refine slices_Concat_int_int_lp2_st _ _ _ _ _ ?_
    rw [Int.toNat_natCast, getD_eq hi, wrS (by omega)]
    have e : ls.flatten.length = (ls.take i).flatten.length + ls[i].length + (ls.drop (i + 1)).flatten.length := by
      have : ls.flatten = (ls.take i).flatten ++ (ls[i] ++ (ls.drop (i + 1)).flatten) := by
        conv => lhs; rw [← List.take_append_drop i ls, drop_cons hi, List.flatten_append, List.flatten_cons]
      rw [this]; simp; omega
    exact pos (ilt hi) (pos (ixn hi) (pos (by omega) ih))
theorem concat_lp1 {ls : List (List Int)} (hl : ls.length < 1000) (hs : ls.flatten.length < 17592186044416) : ∀ (m i : Nat), i + m = ls.length →
    slices_Concat_int_int_lp1 CG ls ls ((ls.take i).flatten.length : Int) ls (ls.length : Int) (i : Int) = some [.own tI ls.flatten]
  | 0, i, h => by
    refine slices_Concat_int_int_lp1_st _ _ _ _ _ _ (neg (ige (by omega)) ?_)
    rw [List.take_of_length_le (by omega)]
    exact bnd (grow_ok hs) (concat_lp2 hl hs ls.length 0 (by omega))
  | m + 1, i, h => by
    have hi : i < ls.length := by omega
    have ih := concat_lp1 hl hs m (i + 1) (by omega)
    have e : ls.flatten.length = (ls.take i).flatten.length + ls[i].length + (ls.drop (i + 1)).flatten.length := by
      have : ls.flatten = (ls.take i).flatten ++ (ls[i] ++ (ls.drop (i + 1)).flatten) := by
        conv => lhs; rw [← List.take_append_drop i ls, drop_cons hi, List.flatten_append, List.flatten_cons]
      rw [this]; simp; omega
    rw [List.take_succ_eq_append_getElem hi, List.flatten_append, List.flatten_singleton, List.length_append] at ih
    refine slices_Concat_int_int_lp1_st _ _ _ _ _ _ ?_
    rw [Int.toNat_natCast, getD_eq hi, wrS (by omega), wr64 (by omega) (by omega), show ((ls.take i).flatten.length : Int) + (ls[i].length : Int) = (((ls.take i).flatten.length + ls[i].length : Nat) : Int) by omega]
    exact pos (ilt hi) (pos (ixn hi) (neg (df (by omega)) ih))
theorem concat_ok {ls : List (List Int)} (hl : ls.length < 1000) (hs : ls.flatten.length < 17592186044416) : callT CG [.o tI] 120 [.val (.sl (.sl tI)) ls] = some ls.flatten :=
  callT_of (slices_Concat_int_int_st ls (concat_lp1 hl hs ls.length 0 (by omega))) rfl
/-- the first part from i on that makes the way shorter -/
def bk (polys : Polys) (o : List Int) (i : Nat) : Nat → Nat → Option (List Int)
  | 0, _ => none
  | m + 1, k => if gn polys o i k > 0 then some (turnd o i k) else bk polys o i m (k + 1)
def bi (polys : Polys) (o : List Int) : Nat → Nat → Option (List Int)
  | 0, _ => none
  | m + 1, i => match bk polys o i (o.length - (i + 1)) (i + 1) with
    | some r => some r
    | none => bi polys o m (i + 1)
def bett (polys : Polys) (o : List Int) : Option (List Int) := bi polys o o.length 0
theorem bk_spec {polys : Polys} {o : List Int} {i : Nat} : ∀ (m k : Nat) {r : List Int}, k + m = o.length → i < k → bk polys o i m k = some r → ∃ k', i < k' ∧ k' < o.length ∧ gn polys o i k' > 0 ∧ r = turnd o i k'
  | 0, k, r, _, _, h => by cases h
  | m + 1, k, r, hm, hik, h => by
    unfold bk at h
    by_cases hc : gn polys o i k > 0
    · rw [if_pos hc] at h; injection h with h; exact ⟨k, hik, by omega, hc, h.symm⟩
    · rw [if_neg hc] at h; exact bk_spec m (k + 1) (by omega) (by omega) h
theorem bi_spec {polys : Polys} {o : List Int} : ∀ (m i : Nat) {r : List Int}, i + m = o.length → bi polys o m i = some r → ∃ i' k', i' < k' ∧ k' < o.length ∧ gn polys o i' k' > 0 ∧ r = turnd o i' k'
  | 0, i, r, _, h => by cases h
  | m + 1, i, r, hm, h => by
    unfold bi at h
    cases hb : bk polys o i (o.length - (i + 1)) (i + 1) with
    | some x =>
      rw [hb] at h
      simp only [Option.some.injEq] at h
      obtain ⟨k', h1, h2, h3, h4⟩ := bk_spec _ _ (by omega) (by omega) hb
      exact ⟨i, k', h1, h2, h3, by rw [← h]; exact h4⟩
    | none => rw [hb] at h; exact bi_spec m (i + 1) (by omega) h
theorem bett_spec {polys : Polys} {o r : List Int} (h : bett polys o = some r) : ∃ i k, i < k ∧ k < o.length ∧ gn polys o i k > 0 ∧ r = turnd o i k := bi_spec o.length 0 (by omega) h
theorem bett_whole {polys : Polys} {o r : List Int} (hw : Whole o polys.length) (h : bett polys o = some r) : Whole r polys.length ∧ tr polys (0, 0) r < tr polys (0, 0) o := by
  obtain ⟨i, k, h1, h2, h3, rfl⟩ := bett_spec h
  refine ⟨turnd_whole hw (by omega) h2, ?_⟩
  have := gain_tr (polys := polys) (show i ≤ k by omega) h2
  omega
def bres (o : List Int) : Option (List Int) → List D
  | some r => [.val (.sl tI) r, .val .bool true]
  | none => [.val (.sl tI) o, .val .bool false]
theorem better_lp2 {polys : Polys} {o : List Int} (hg : GoodP polys) (hw : Whole o polys.length) {i : Nat} (hi : i < o.length)
    (hn : path_better_lp1 CG polys o polys o (o.length : Int) ((i + 1 : Nat) : Int) = some (bres o (bi polys o (o.length - (i + 1)) (i + 1)))) : ∀ (m k : Nat), k + m = o.length → i < k →
    path_better_lp2 CG polys o polys o (i : Int) (k : Int) (o.length : Int) (i : Int) = some (bres o (match bk polys o i m k with | some r => some r | none => bi polys o (o.length - (i + 1)) (i + 1)))
  | 0, k, h, hik => by
    have := hg.len
    have := hw.1
    refine path_better_lp2_st _ _ _ _ _ _ _ _ (neg (ige (by omega)) ?_)
    rw [wrS (by omega)]
    exact hn
  | m + 1, k, h, hik => by
    have := hg.len
    have := hw.1
    have hk : k < o.length := by omega
    refine path_better_lp2_st _ _ _ _ _ _ _ _ ?_
    rw [wrS (by omega)]
    refine pos (ilt hk) (bnd (gain_ok hg hw hik hk) ?_)
    unfold bk
    by_cases hc : gn polys o i k > 0
    · refine pos (dt hc) (pos ⟨by omega, by omega, by omega, rfl⟩ ?_)
      simp only [Int.toNat_natCast]
      refine bnd (cloneI_ok (by simp; omega)) (bnd (reverseI_ok (by simp; omega)) (pos ⟨by omega, by omega, trivial⟩ (pos (by omega) (bnd (v := turnd o i k) ?_ ?_))))
      · have e : [o.take i, ((o.take (k + 1)).drop i).reverse, o.drop (k + 1)].flatten = turnd o i k := by simp [turnd]
        have := concat_ok (ls := [o.take i, ((o.take (k + 1)).drop i).reverse, o.drop (k + 1)]) (by simp) (by rw [e, turnd_len (by omega) hk]; omega)
        rw [e] at this
        exact this
      · rw [if_pos hc]; rfl
    · refine neg (df hc) ?_
      rw [if_neg hc]
      exact better_lp2 hg hw hi hn m (k + 1) (by omega) (by omega)
theorem better_lp1 {polys : Polys} {o : List Int} (hg : GoodP polys) (hw : Whole o polys.length) : ∀ (m i : Nat), i + m = o.length →
    path_better_lp1 CG polys o polys o (o.length : Int) (i : Int) = some (bres o (bi polys o m i))
  | 0, i, h => path_better_lp1_st _ _ _ _ _ _ (neg (ige (by omega)) rfl)
  | m + 1, i, h => by
    have := hg.len
    have := hw.1
    have ih := better_lp1 hg hw m (i + 1) (by omega)
    rw [show m = o.length - (i + 1) by omega] at ih
    refine path_better_lp1_st _ _ _ _ _ _ (pos (ilt (by omega)) ?_)
    rw [wrS (by omega)]
    have := better_lp2 hg hw (show i < o.length by omega) ih (o.length - (i + 1)) (i + 1) (by omega) (by omega)
    rw [this]
    show _ = some (bres o (match bk polys o i (o.length - (i + 1)) (i + 1) with | some r => some r | none => bi polys o m (i + 1)))
    rw [show m = o.length - (i + 1) by omega]
theorem better_ok {polys : Polys} {o : List Int} (hg : GoodP polys) (hw : Whole o polys.length) : callT CG [.v (.sl tI), .v .bool] 117 [.val (.sl (.sl t0)) polys, .val (.sl tI) o] = some (match bett polys o with | some r => (r, true) | none => (o, false)) := by
  have h := path_better_st polys o (better_lp1 hg hw o.length 0 (by omega))
  cases hb : bi polys o o.length 0 with
  | some r => rw [hb] at h; refine callT_of h ?_; unfold bett; rw [hb]; rfl
  | none => rw [hb] at h; refine callT_of h ?_; unfold bett; rw [hb]; rfl
/-- improved up to m times -/
def impM (polys : Polys) : Nat → List Int → List Int
  | 0, o => o
  | m + 1, o => match bett polys o with
    | some r => impM polys m r
    | none => o
theorem improve_lp2 {polys : Polys} {order : List Int} (hg : GoodP polys) : ∀ (m t : Nat) (o : List Int), t + m = 1000 → Whole o polys.length →
    path_Improve_lp2 CG polys order polys o (t : Int) = some [.val (.sl tI) (impM polys m o), .val tI 0]
  | 0, t, o, h, hw => path_Improve_lp2_st _ _ _ _ _ (neg (df (by omega)) rfl)
  | m + 1, t, o, h, hw => by
    refine path_Improve_lp2_st _ _ _ _ _ (pos (dt (by omega)) (bnd (better_ok hg hw) ?_))
    rw [wrS (by omega)]
    unfold impM
    cases hb : bett polys o with
    | some r => exact neg (by simp) (improve_lp2 hg m (t + 1) r (by omega) (bett_whole hw hb).1)
    | none => exact pos (by simp) rfl
noncomputable def impE (polys : Polys) (order : List Int) : List Int := if validE polys order = 0 then impM polys 1000 order else []
theorem improve_ok (polys : Polys) (order : List Int) : callT CG [.v (.sl tI), .v tI] 109 [.val (.sl (.sl t0)) polys, .val (.sl tI) order] = some (impE polys order, validE polys order) := by
  refine callT_of (path_Improve_st polys order (r := [.val (.sl tI) (impE polys order), .val tI (validE polys order)]) ?_) rfl
  refine bnd (valid_ok polys order) ?_
  unfold impE
  by_cases h : validE polys order = 0
  · obtain ⟨hg, hw⟩ := valid_zero h
    have := valid_len h
    rw [if_pos h, h]
    refine neg (by simp) (bnd (cloneI_ok (by omega)) ?_)
    refine path_Improve_lp1_st _ _ _ _ _ (pos (dt (by omega)) (bnd (better_ok hg hw) ?_))
    rw [show impM polys 1000 order = (match bett polys order with | some r => impM polys 999 r | none => order) from rfl]
    cases hb : bett polys order with
    | some r => exact neg (by simp) (improve_lp2 hg 999 1 r (by omega) (bett_whole hw hb).1)
    | none => exact pos (by simp) rfl
  · rw [if_neg h]
    exact pos (nn0 h) rfl
end Pl
end
section
/- Chapter 41: the reference's improved order. -/
namespace Pl
open Go Geo Pm
def tf (o : List Int) (i k n : Nat) : Int := if i ≤ n ∧ n ≤ k then o.getD (i + k - n) 0 else o.getD n 0
theorem turnd_tf {o : List Int} {i k : Nat} (hik : i ≤ k) (hk : k < o.length) : turnd o i k = (List.range o.length).map (tf o i k) := by
  apply List.ext_getElem
  · rw [turnd_len hik hk]; simp
  · intro n h1 h2
    simp only [List.length_map, List.length_range] at h2
    simp only [List.getElem_map, List.getElem_range]
    unfold tf
    have h1' : n < (o.take i ++ (((o.take (k + 1)).drop i).reverse ++ o.drop (k + 1))).length := h1
    show (o.take i ++ (((o.take (k + 1)).drop i).reverse ++ o.drop (k + 1)))[n]'h1' = _
    rw [List.getElem_append]
    simp only [List.length_take, show min i o.length = i by omega]
    by_cases c1 : n < i
    · rw [dif_pos c1, if_neg (by omega), getD_eq h2]
      exact List.getElem_take
    · rw [dif_neg c1, List.getElem_append]
      simp only [List.length_reverse, List.length_drop, List.length_take, show min (k + 1) o.length = k + 1 by omega]
      by_cases c2 : n - i < k + 1 - i
      · rw [dif_pos c2, if_pos (by omega), getD_eq (by omega), List.getElem_reverse, List.getElem_drop, List.getElem_take]
        congr 1
        simp only [List.length_drop, List.length_take]
        omega
      · rw [dif_neg c2, if_neg (by omega), getD_eq h2, List.getElem_drop]
        congr 1
        omega
theorem turned_lp {o : List Int} {i k : Nat} (hl : o.length ≤ 1000) (hik : i ≤ k) (hk : k < o.length) : ∀ (m n : Nat), n + m = o.length →
    garmentref41_Turned_lp1 CG o (i : Int) (k : Int) o (i : Int) (k : Int) (n : Int) ((List.range n).map (tf o i k)) = some [.own tI (turnd o i k)]
  | 0, n, h => by
    refine garmentref41_Turned_lp1_st _ _ _ _ _ _ _ _ (neg (ige (by omega)) ?_)
    rw [turnd_tf hik hk, show n = o.length by omega]
  | m + 1, n, h => by
    have hn : n < o.length := by omega
    have ih := turned_lp hl hik hk m (n + 1) (by omega)
    rw [List.range_succ, List.map_append] at ih
    have e : List.map (tf o i k) [n] = [tf o i k n] := rfl
    rw [e] at ih
    refine garmentref41_Turned_lp1_st _ _ _ _ _ _ _ _ ?_
    rw [wrS (by omega), wr64 (x := (i : Int) + (k : Int)) (by omega) (by omega), wr64 (x := (i : Int) + (k : Int) - (n : Int)) (by omega) (by omega)]
    refine pos (ilt hn) ?_
    have out : ¬ (i ≤ n ∧ n ≤ k) → (if (0 ≤ (n : Int) ∧ (n : Int) < ((List.length o : Nat) : Int)) then (if (List.length ((List.range n).map (tf o i k)) + List.length ([(List.getD o (Int.toNat (n : Int)) (0 : Int))] : List Int) < 17592186044416) then (garmentref41_Turned_lp1 CG o (i : Int) (k : Int) o (i : Int) (k : Int) ((n + 1 : Nat) : Int) ((List.range n).map (tf o i k) ++ ([(List.getD o (Int.toNat (n : Int)) (0 : Int))] : List Int))) else none) else none) = some [D.own tI (turnd o i k)] := fun hc => by
      rw [show tf o i k n = o.getD n 0 from if_neg hc] at ih
      rw [Int.toNat_natCast]
      exact pos (ixn hn) (pos (by simp; omega) ih)
    by_cases h1 : i ≤ n
    · refine pos (dt (by omega)) ?_
      by_cases h2 : n ≤ k
      · rw [show tf o i k n = o.getD (i + k - n) 0 from if_pos ⟨h1, h2⟩] at ih
        rw [show (i : Int) + (k : Int) - (n : Int) = ((i + k - n : Nat) : Int) by omega, Int.toNat_natCast]
        exact pos (dt (by omega)) (pos (by omega) (pos (by simp; omega) ih))
      · exact neg (df (by omega)) (out (by omega))
    · exact neg (df (by omega)) (out (by omega))
theorem turned_ok {o : List Int} {i k : Nat} (hl : o.length ≤ 1000) (hik : i ≤ k) (hk : k < o.length) : callT CG [.o tI] 131 [.val (.sl tI) o, .val tI ((i : Nat) : Int), .val tI ((k : Nat) : Int)] = some (turnd o i k) :=
  callT_of (garmentref41_Turned_st o i k (turned_lp hl hik hk o.length 0 (by omega))) rfl
theorem rbetter_lp2 {polys : Polys} {o : List Int} (hg : GoodP polys) (hw : Whole o polys.length) {i : Nat}
    (hn : garmentref41_better_lp1 CG polys o polys o (tr polys (0, 0) o) ((i + 1 : Nat) : Int) = some (bres o (bi polys o (o.length - (i + 1)) (i + 1)))) : ∀ (m k : Nat), k + m = o.length → i < k →
    garmentref41_better_lp2 CG polys o polys o (tr polys (0, 0) o) (i : Int) (k : Int) = some (bres o (match bk polys o i m k with | some r => some r | none => bi polys o (o.length - (i + 1)) (i + 1)))
  | 0, k, h, hik => by
    have := hg.len
    have := hw.1
    refine garmentref41_better_lp2_st _ _ _ _ _ _ _ (neg (ige (by omega)) ?_)
    rw [wrS (by omega)]
    exact hn
  | m + 1, k, h, hik => by
    have := hg.len
    have := hw.1
    have hk : k < o.length := by omega
    refine garmentref41_better_lp2_st _ _ _ _ _ _ _ ?_
    rw [wrS (by omega)]
    have hg2 := gain_tr (polys := polys) (show i ≤ k by omega) hk
    refine pos (ilt hk) (bnd (turned_ok (by omega) (by omega) hk) (bnd (rtr_ok hg (whole_inR (turnd_whole hw (by omega) hk)) (by rw [turnd_len (by omega) hk]; omega)) ?_))
    unfold bk
    by_cases hc : gn polys o i k > 0
    · refine pos (dt (by omega)) ?_
      rw [if_pos hc]; rfl
    · refine neg (df (by omega)) ?_
      rw [if_neg hc]
      exact rbetter_lp2 hg hw hn m (k + 1) (by omega) (by omega)
theorem rbetter_lp1 {polys : Polys} {o : List Int} (hg : GoodP polys) (hw : Whole o polys.length) : ∀ (m i : Nat), i + m = o.length →
    garmentref41_better_lp1 CG polys o polys o (tr polys (0, 0) o) (i : Int) = some (bres o (bi polys o m i))
  | 0, i, h => garmentref41_better_lp1_st _ _ _ _ _ _ (neg (ige (by omega)) rfl)
  | m + 1, i, h => by
    have := hg.len
    have := hw.1
    have ih := rbetter_lp1 hg hw m (i + 1) (by omega)
    rw [show m = o.length - (i + 1) by omega] at ih
    refine garmentref41_better_lp1_st _ _ _ _ _ _ (pos (ilt (by omega)) ?_)
    rw [wrS (by omega)]
    have := rbetter_lp2 hg hw ih (o.length - (i + 1)) (i + 1) (by omega) (by omega)
    rw [this]
    show _ = some (bres o (match bk polys o i (o.length - (i + 1)) (i + 1) with | some r => some r | none => bi polys o m (i + 1)))
    rw [show m = o.length - (i + 1) by omega]
theorem rbetter_ok {polys : Polys} {o : List Int} (hg : GoodP polys) (hw : Whole o polys.length) : callT CG [.v (.sl tI), .v .bool] 130 [.val (.sl (.sl t0)) polys, .val (.sl tI) o] = some (match bett polys o with | some r => (r, true) | none => (o, false)) := by
  have h := garmentref41_better_st polys o (bnd (rtr_ok hg (whole_inR hw) (by have := hg.len; have := hw.1; omega)) (rbetter_lp1 hg hw o.length 0 (by omega)))
  cases hb : bi polys o o.length 0 with
  | some r => rw [hb] at h; refine callT_of h ?_; unfold bett; rw [hb]; rfl
  | none => rw [hb] at h; refine callT_of h ?_; unfold bett; rw [hb]; rfl
theorem rimprove_lp2 {polys : Polys} {order : List Int} (hg : GoodP polys) : ∀ (m t : Nat) (o : List Int), t + m = 1000 → Whole o polys.length →
    garmentref41_Improve_lp2 CG polys order polys o (t : Int) = some [.val (.sl tI) (impM polys m o), .val tI 0]
  | 0, t, o, h, hw => garmentref41_Improve_lp2_st _ _ _ _ _ (neg (df (by omega)) rfl)
  | m + 1, t, o, h, hw => by
    refine garmentref41_Improve_lp2_st _ _ _ _ _ (pos (dt (by omega)) (bnd (rbetter_ok hg hw) ?_))
    rw [wrS (by omega)]
    unfold impM
    cases hb : bett polys o with
    | some r => exact neg (by simp) (rimprove_lp2 hg m (t + 1) r (by omega) (bett_whole hw hb).1)
    | none => exact pos (by simp) rfl
theorem rimprove_ok (polys : Polys) (order : List Int) (hn : polys.length < 281474976710656) : callT CG [.v (.sl tI), .v tI] 128 [.val (.sl (.sl t0)) polys, .val (.sl tI) order] = some (impE polys order, validE polys order) := by
  refine callT_of (garmentref41_Improve_st polys order (r := [.val (.sl tI) (impE polys order), .val tI (validE polys order)]) ?_) rfl
  refine bnd (both_ok polys order hn) ?_
  unfold impE
  by_cases h : validE polys order = 0
  · obtain ⟨hg, hw⟩ := valid_zero h
    have := valid_len h
    rw [if_pos h, h]
    refine neg (by simp) (pos (by simp; omega) ?_)
    rw [List.nil_append]
    refine garmentref41_Improve_lp1_st _ _ _ _ _ (pos (dt (by omega)) (bnd (rbetter_ok hg hw) ?_))
    rw [show impM polys 1000 order = (match bett polys order with | some r => impM polys 999 r | none => order) from rfl]
    cases hb : bett polys order with
    | some r => exact neg (by simp) (rimprove_lp2 hg 999 1 r (by omega) (bett_whole hw hb).1)
    | none => exact pos (by simp) rfl
  · rw [if_neg h]
    exact pos (nn0 h) rfl
theorem impM_whole {polys : Polys} : ∀ (m : Nat) {o : List Int}, Whole o polys.length → Whole (impM polys m o) polys.length
  | 0, o, h => h
  | m + 1, o, h => by
    unfold impM
    cases hb : bett polys o with
    | some r => exact impM_whole m (bett_whole h hb).1
    | none => exact h
theorem greE_len (polys : Polys) : (greE polys).length ≤ 60 := by
  by_cases h : chkP polys = 0
  · have := (greE_whole h).1; have := (goodP h).len; omega
  · rw [show greE polys = [] from if_neg h]; simp
theorem impE_len (polys : Polys) (order : List Int) : (impE polys order).length ≤ 60 := by
  by_cases h : validE polys order = 0
  · obtain ⟨hg, hw⟩ := valid_zero h
    rw [show impE polys order = impM polys 1000 order from if_pos h]
    have := (impM_whole 1000 hw).1; have := hg.len; omega
  · rw [show impE polys order = [] from if_neg h]; simp
end Pl
end
section
/- The test of a polygon by computing; the examples are run with it. -/
namespace Pl
open Go Geo Pm
def betB (a b q : IP) : Bool := crI a b q == 0 && (decide (min a.1 b.1 ≤ q.1) && decide (q.1 ≤ max a.1 b.1)) && (decide (min a.2 b.2 ≤ q.2) && decide (q.2 ≤ max a.2 b.2))
theorem betB_iff (a b q : IP) : betB a b q = true ↔ BetI a b q := by unfold betB BetI; simp only [Bool.and_eq_true, beq_iff_eq, decide_eq_true_eq, and_assoc]
def divB (a b p q : IP) : Bool := (decide (crI a b p < 0) && decide (0 < crI a b q)) || (decide (0 < crI a b p) && decide (crI a b q < 0))
theorem divB_iff (a b p q : IP) : divB a b p q = true ↔ DivI a b p q := by unfold divB DivI; simp only [Bool.or_eq_true, Bool.and_eq_true, decide_eq_true_eq]
def meetB (a b c d : IP) : Bool := betB a b c || (betB a b d || (betB c d a || (betB c d b || (divB a b c d && divB c d a b))))
theorem meetB_iff (a b c d : IP) : meetB a b c d = true ↔ MeetI a b c d := by unfold meetB MeetI; simp only [Bool.or_eq_true, Bool.and_eq_true, betB_iff, divB_iff]
def simpB (P : List IP) : Bool := (List.range P.length).all fun i => !(decide (nth P i = nth P (i + 1))) && (!betB (nth P i) (nth P (i + 1)) (nth P (i + 2)) && (!betB (nth P (i + 1)) (nth P (i + 2)) (nth P i) &&
  (List.range P.length).all fun k => !Nat.ble (i + 2) k || ((Nat.beq i 0 && Nat.beq k (P.length - 1)) || !meetB (nth P i) (nth P (i + 1)) (nth P k) (nth P (k + 1)))))
theorem simpB_iff (P : List IP) : simpB P = true ↔ SimpI P := by
  unfold simpB SimpI
  simp only [List.all_eq_true, List.mem_range, Bool.and_eq_true, Bool.not_eq_true', decide_eq_false_iff_not, ← Bool.not_eq_true, betB_iff, Bool.or_eq_true, meetB_iff, Nat.beq_eq, Nat.ble_eq]
  refine forall_congr' fun i => forall_congr' fun hi => ?_
  refine and_congr (by simp) (and_congr Iff.rfl (and_congr Iff.rfl ?_))
  constructor
  · intro h k h1 h2 h3
    rcases h k h2 with h4 | h4 | h4
    · exact absurd h1 h4
    · exact absurd h4 h3
    · exact h4
  · intro h k h2
    by_cases h1 : i + 2 ≤ k
    · by_cases h3 : i = 0 ∧ k = P.length - 1
      · exact Or.inr (Or.inl h3)
      · exact Or.inr (Or.inr (h k h1 h2 h3))
    · exact Or.inl h1
def insB (s : IP) : Bool := (decide (-1048576 ≤ s.1) && decide (s.1 ≤ 1048576)) && (decide (-1048576 ≤ s.2) && decide (s.2 ≤ 1048576))
theorem insB_iff (s : IP) : insB s = true ↔ insI s.1 ∧ insI s.2 := by unfold insB insI; simp only [Bool.and_eq_true, decide_eq_true_eq]
def chkB (P : List IP) : Int := cond (Nat.blt 40 P.length) 5 (cond (Nat.blt P.length 3) 11 (cond (P.all insB) (cond (simpB P) 0 11) 3))
theorem chkB_eq (P : List IP) : chkB P = chk P := by
  unfold chkB chk
  by_cases h1 : 40 < P.length
  · rw [if_pos h1, show Nat.blt 40 P.length = true from of_eq_true (by rw [Nat.blt_eq]; simp [h1])]; rfl
  rw [if_neg h1, show Nat.blt 40 P.length = false from Bool.eq_false_iff.2 (fun h => h1 (Nat.blt_eq ▸ h))]
  by_cases h2 : P.length < 3
  · rw [if_pos h2, show Nat.blt P.length 3 = true from of_eq_true (by rw [Nat.blt_eq]; simp [h2])]; rfl
  rw [if_neg h2, show Nat.blt P.length 3 = false from Bool.eq_false_iff.2 (fun h => h2 (Nat.blt_eq ▸ h))]
  have hin : P.all insB = true ↔ InsI P := by
    unfold InsI
    rw [List.all_eq_true]
    exact forall_congr' fun s => forall_congr' fun _ => insB_iff s
  by_cases h3 : InsI P
  · rw [if_neg (fun h => h h3), hin.2 h3]
    by_cases h4 : SimpI P
    · rw [if_pos h4, (simpB_iff P).2 h4]; rfl
    · rw [if_neg h4, show simpB P = false from Bool.eq_false_iff.2 (fun h => h4 ((simpB_iff P).1 h))]; rfl
  · rw [if_pos h3, show P.all insB = false from Bool.eq_false_iff.2 (fun h => h3 (hin.1 h))]; rfl
/-- calls that are known: the test of a polygon -/
def O11 : CallF := fun f as => cond (Nat.beq f 13 || Nat.beq f 67) (match as with
  | [.val t x] => match castT t (.sl t0) x with
    | some P => some [.val tI (chkB P)]
    | none => none
  | _ => none) none
theorem O11_less : Less O11 (limC G) := by
  intro f as r h
  unfold O11 at h
  cases hb : (Nat.beq f 13 || Nat.beq f 67) with
  | false => rw [hb] at h; cases h
  | true =>
    rw [hb] at h
    simp only [cond_true] at h
    split at h
    · rename_i t x
      split at h
      · rename_i P hc
        obtain ⟨e, hx⟩ := castT_some hc
        subst e
        subst hx
        injection h with h
        subst h
        rw [chkB_eq]
        rw [Bool.or_eq_true] at hb
        rcases hb with hb | hb
        · rw [Nat.eq_of_beq_eq_true hb]; exact check_cg _
        · rw [Nat.eq_of_beq_eq_true hb]; exact rcheck_cg _
      · cases h
    · cases h
theorem run11 {f k : Nat} {as : List D} {r : R} (h : evO G O11 k f as = some r) : CG f as = some r := evO_lim O11_less k f as r h
end Pl
end
section
/- The examples of chapter 41, by running the plain reading. -/
namespace Pl
open Go Geo Pm
theorem alive41_ok : callT CG [.v .bool] 103 [] = some true := callT_of (run11 (k := 1100) (r := [.val .bool true]) (by kernel_rfl)) rfl
end Pl
end
section
/- PathOrders: Greedy and Improve return the orders, or the error, that the reference returns, for any lists within the bounds. -/
namespace Pl
open Go Geo Pm
theorem PathOrders_pure (x0 : Polys) (x1 : List Int) (w0 : wf (.sl (.sl t0)) x0) (w1 : wf (.sl tI) x1) : CG 129 [.val (.sl (.sl t0)) x0, .val (.sl tI) x1] = some [.val .bool true] := by
  obtain ⟨r, hr, h2⟩ := light_ok x0
  refine garmentlaw41_PathOrders_st x0 x1 (bnd hr ?_)
  cases r with
  | false => exact pos rfl (bnd alive41_ok rfl)
  | true =>
    have := h2 rfl
    have l1 := greE_len x0
    have l2 := impE_len x0 x1
    refine neg (by simp) ?_
    by_cases h3 : 100 < x1.length
    · exact pos (dt (by omega)) (bnd alive41_ok rfl)
    refine neg (df (by omega)) ?_
    by_cases h8 : 8 < x0.length
    · refine pos (dt (by omega)) ?_
      by_cases h6 : x0.length ≤ 60
      · exact pos (dt (by omega)) (bnd alive41_ok rfl)
      · exact neg (df (by omega)) (bnd (greedy_ok x0) (bnd (rgreedy_ok x0) (bnd (improve_ok x0 x1) (bnd (rimprove_ok x0 x1 (by omega)) (bnd (sameI21_ok (by simp only; omega)) (pos (by simp) (pos (by simp) (bnd (sameI21_ok (by simp only; omega)) (pos (by simp) (pos (by simp) (bnd alive41_ok rfl)))))))))))
    · exact neg (df (by omega)) (bnd (greedy_ok x0) (bnd (rgreedy_ok x0) (bnd (improve_ok x0 x1) (bnd (rimprove_ok x0 x1 (by omega)) (bnd (sameI21_ok (by simp only; omega)) (pos (by simp) (pos (by simp) (bnd (sameI21_ok (by simp only; omega)) (pos (by simp) (pos (by simp) (bnd alive41_ok rfl)))))))))))
end Pl
end
