/- Splice zones, over lists of extents. -/
import Derived.Test.YtakefijfdgpdoaaP1
namespace Geo
def extErr (len : Int) (c : List IP → Int) : List (List IP) → Int
  | [] => 0
  | P :: l => if c P ≠ 0 then c P else if minX P < 0 ∨ maxX P > len then 13 else extErr len c l
def zone (P : List IP) : IP := (minX P, maxX P)
def backI (l : List IP) (hi : Int) : Int := l.foldl (fun out z => if z.2 > hi then min out z.1 else out) hi

theorem foldl_back (hi : Int) (l : List IP) (m : Int) :
    l.foldl (fun out z => if z.2 > hi then min out z.1 else out) m ≤ m ∧ (∀ z ∈ l, z.2 > hi → l.foldl (fun out z => if z.2 > hi then min out z.1 else out) m ≤ z.1) ∧
    (l.foldl (fun out z => if z.2 > hi then min out z.1 else out) m = m ∨ ∃ z ∈ l, z.2 > hi ∧ l.foldl (fun out z => if z.2 > hi then min out z.1 else out) m = z.1) := by
  induction l generalizing m with
  | nil => simp
  | cons a l ih =>
    simp only [List.foldl_cons, List.mem_cons, forall_eq_or_imp, exists_eq_or_imp]
    by_cases h : a.2 > hi
    · rw [if_pos h]
      obtain ⟨h1, h2, h3⟩ := ih (min m a.1)
      refine ⟨by omega, ⟨fun _ => by omega, h2⟩, ?_⟩
      rcases h3 with h3 | h3
      · rw [h3]; omega
      · exact Or.inr (Or.inr h3)
    · rw [if_neg h]
      obtain ⟨h1, h2, h3⟩ := ih m
      refine ⟨h1, ⟨fun x => absurd x h, h2⟩, ?_⟩
      rcases h3 with h3 | h3
      · exact Or.inl h3
      · exact Or.inr (Or.inr h3)

theorem back_le (l : List IP) (hi : Int) : backI l hi ≤ hi := (foldl_back hi l hi).1
theorem back_zone {l : List IP} {hi : Int} {z : IP} (h : z ∈ l) (h2 : z.2 > hi) : backI l hi ≤ z.1 := (foldl_back hi l hi).2.1 z h h2
theorem back_is (l : List IP) (hi : Int) : backI l hi = hi ∨ ∃ z ∈ l, z.2 > hi ∧ backI l hi = z.1 := (foldl_back hi l hi).2.2
/-- the greatest lower bound determines it -/
theorem back_eq {l : List IP} {hi b : Int} (h1 : b ≤ hi) (h2 : ∀ z ∈ l, z.2 > hi → b ≤ z.1) (h3 : b = hi ∨ ∃ z ∈ l, z.2 > hi ∧ b = z.1) : backI l hi = b := by
  have a := back_le l hi
  have c := back_is l hi
  rcases h3 with rfl | ⟨z, hz, hz2, rfl⟩
  · rcases c with c | ⟨z, hz, hz2, e⟩
    · exact c
    · have := h2 z hz hz2; omega
  · have d := back_zone hz hz2
    rcases c with c | ⟨z', hz', hz2', e⟩
    · omega
    · have := h2 z' hz' hz2'; omega
theorem back_congr {l m : List IP} (h : ∀ z, z ∈ l ↔ z ∈ m) (hi : Int) : backI l hi = backI m hi := by
  apply back_eq (back_le m hi)
  · intro z hz h2; exact back_zone ((h z).1 hz) h2
  · rcases back_is m hi with e | ⟨z, hz, h2, e⟩
    · exact Or.inl e
    · exact Or.inr ⟨z, (h z).2 hz, h2, e⟩

/-- the positions that Best tries -/
def triedI (l : List IP) (hi : Int) : List Int := hi :: l.flatMap fun z => [z.1, z.2 - 1, z.2]
def okI (l : List IP) (lo hi h : Int) : Prop := 0 ≤ h ∧ h ≤ hi ∧ lo < backI l h
/-- z is the best of the positions T -/
def BestI (l : List IP) (lo hi : Int) (T : Int → Prop) (z : IP) : Prop :=
  okI l lo hi z.2 ∧ z.1 = backI l z.2 ∧ ∀ h, T h → okI l lo hi h → z.2 - z.1 < h - backI l h ∨ (z.2 - z.1 = h - backI l h ∧ h ≤ z.2)

theorem best_uniq {l : List IP} {lo hi : Int} {T : Int → Prop} {y z : IP} (hy : BestI l lo hi T y) (hz : BestI l lo hi T z) (ty : T y.2) (tz : T z.2) : y = z := by
  have a := hy.2.2 z.2 tz hz.1
  have b := hz.2.2 y.2 ty hy.1
  have e1 := hy.2.1
  have e2 := hz.2.1
  have : y.2 = z.2 := by omega
  exact Prod.ext (by rw [e1, e2, this]) this

theorem minLo {l : List IP} (h : l ≠ []) : ∃ z ∈ l, ∀ w ∈ l, z.1 ≤ w.1 := by
  have hp := minX_spec h
  obtain ⟨s, hs, e⟩ := hp.2
  exact ⟨s, hs, fun w hw => by have := hp.1 w hw; omega⟩

theorem exists_min (f : IP → Int) (l : List IP) (h : l ≠ []) : ∃ z ∈ l, ∀ w ∈ l, f z ≤ f w := by
  induction l with
  | nil => exact absurd rfl h
  | cons a l ih =>
    by_cases hl : l = []
    · subst hl; exact ⟨a, by simp, by simp⟩
    · obtain ⟨z, hz, hz2⟩ := ih hl
      by_cases hc : f a ≤ f z
      · refine ⟨a, by simp, ?_⟩
        intro w hw
        rcases List.mem_cons.1 hw with rfl | hw
        · omega
        · have := hz2 w hw; omega
      · refine ⟨z, by simp [hz], ?_⟩
        intro w hw
        rcases List.mem_cons.1 hw with rfl | hw
        · omega
        · exact hz2 w hw
theorem exists_maxI (f : IP → Int) (l : List IP) (h : l ≠ []) : ∃ z ∈ l, ∀ w ∈ l, f w ≤ f z := by
  obtain ⟨z, hz, h2⟩ := exists_min (fun x => - f x) l h
  exact ⟨z, hz, fun w hw => by have := h2 w hw; omega⟩

/-- no position is better than the best tried one -/
theorem tried_enough {l : List IP} {lo hi h : Int} (hlo : 0 ≤ lo) (ok : okI l lo hi h) :
    ∃ t ∈ triedI l hi, okI l lo hi t ∧ (t - backI l t < h - backI l h ∨ (t - backI l t = h - backI l h ∧ h ≤ t)) := by
  obtain ⟨h0, h1, h2⟩ := ok
  have tm : ∀ t, (t = hi ∨ ∃ z ∈ l, t = z.1 ∨ t = z.2 - 1 ∨ t = z.2) → t ∈ triedI l hi := by
    intro t ht
    unfold triedI
    rcases ht with rfl | ⟨z, hz, e⟩
    · simp
    · simp only [List.mem_cons, List.mem_flatMap]
      right
      exact ⟨z, hz, by simp; exact e⟩
  -- the zones that end behind h
  have hb := back_is l h
  by_cases hz0 : backI l h = h
  · -- no length: as far right as the rule stays
    let R := l.filter fun z => decide (z.2 > h)
    by_cases hR : R = []
    · -- no zone ends behind h: hi
      have nz : ∀ z ∈ l, ¬ z.2 > h := by
        intro z hz hgt
        have : z ∈ R := List.mem_filter.2 ⟨hz, by simpa using hgt⟩
        rw [hR] at this; simp at this
      refine ⟨hi, tm hi (Or.inl rfl), ⟨by omega, by omega, ?_⟩, ?_⟩
      · rw [back_eq (b := hi) (by omega) (fun z hz hgt => absurd (show z.2 > h by omega) (nz z hz)) (Or.inl rfl)]; omega
      · rw [back_eq (b := hi) (by omega) (fun z hz hgt => absurd (show z.2 > h by omega) (nz z hz)) (Or.inl rfl)]; omega
    · obtain ⟨a, ha, ha2⟩ := exists_min (·.1) R hR
      obtain ⟨e, he, he2⟩ := exists_min (·.2) R hR
      have ha' := List.mem_filter.1 ha
      have he' := List.mem_filter.1 he
      simp only [decide_eq_true_eq] at ha' he'
      have inR : ∀ z ∈ l, z.2 > h → z ∈ R := fun z hz hgt => List.mem_filter.2 ⟨hz, by simpa using hgt⟩
      have hha : h ≤ a.1 := by have := back_zone ha'.1 ha'.2; omega
      have val : ∀ t, h ≤ t → t ≤ a.1 → t < e.2 → backI l t = t := by
        intro t t1 t2 t3
        apply back_eq (by omega)
        · intro z hz hgt
          have := ha2 z (inR z hz (by omega)); omega
        · exact Or.inl rfl
      have pick : ∀ t, (t = hi ∨ ∃ z ∈ l, t = z.1 ∨ t = z.2 - 1 ∨ t = z.2) → h ≤ t → t ≤ a.1 → t < e.2 → t ≤ hi →
          ∃ t ∈ triedI l hi, okI l lo hi t ∧ (t - backI l t < h - backI l h ∨ (t - backI l t = h - backI l h ∧ h ≤ t)) := by
        intro t c1 c2 c3 c4 c5
        have := val t c2 c3 c4
        exact ⟨t, tm t c1, ⟨by omega, c5, by omega⟩, by omega⟩
      by_cases c1 : a.1 ≤ hi ∧ a.1 ≤ e.2 - 1
      · exact pick a.1 (Or.inr ⟨a, ha'.1, Or.inl rfl⟩) hha (by omega) (by omega) (by omega)
      · by_cases c2 : e.2 - 1 ≤ hi ∧ e.2 - 1 ≤ a.1
        · exact pick (e.2 - 1) (Or.inr ⟨e, he'.1, Or.inr (Or.inl rfl)⟩) (by omega) (by omega) (by omega) (by omega)
        · exact pick hi (Or.inl rfl) (by omega) (by omega) (by omega) (by omega)
  · -- some length: as far left as the rule stays
    obtain ⟨m, hm, hm2, em⟩ : ∃ z ∈ l, z.2 > h ∧ backI l h = z.1 := hb.resolve_left hz0
    have hmh : m.1 < h := by have := back_le l h; omega
    let R := l.filter fun z => decide (z.2 ≤ h)
    have val : ∀ t, m.1 ≤ t → t ≤ h → (∀ z ∈ l, z.2 ≤ h → z.2 ≤ t) → backI l t = m.1 := by
      intro t t1 t2 t3
      apply back_eq t1
      · intro z hz hgt
        by_cases hc : z.2 > h
        · have := back_zone hz hc; omega
        · have := t3 z hz (by omega); omega
      · exact Or.inr ⟨m, hm, by omega, rfl⟩
    have pick : ∀ t, (t = hi ∨ ∃ z ∈ l, t = z.1 ∨ t = z.2 - 1 ∨ t = z.2) → m.1 ≤ t → t ≤ h → (∀ z ∈ l, z.2 ≤ h → z.2 ≤ t) → 
        ∃ t ∈ triedI l hi, okI l lo hi t ∧ (t - backI l t < h - backI l h ∨ (t - backI l t = h - backI l h ∧ h ≤ t)) := by
      intro t c1 c2 c3 c4
      have := val t c2 c3 c4
      exact ⟨t, tm t c1, ⟨by omega, by omega, by omega⟩, by omega⟩
    by_cases hR : ∃ z ∈ l, z.2 ≤ h ∧ m.1 ≤ z.2
    · have hne : R ≠ [] := by
        obtain ⟨z, hz, hz2, _⟩ := hR
        intro e
        have : z ∈ R := List.mem_filter.2 ⟨hz, by simpa using hz2⟩
        rw [e] at this; simp at this
      obtain ⟨e, he, he2⟩ := exists_maxI (·.2) R hne
      have he' := List.mem_filter.1 he
      simp only [decide_eq_true_eq] at he'
      obtain ⟨z, hz, hz2, hz3⟩ := hR
      have := he2 z (List.mem_filter.2 ⟨hz, by simpa using hz2⟩)
      refine pick e.2 (Or.inr ⟨e, he'.1, Or.inr (Or.inr rfl)⟩) (by omega) (by omega) ?_
      intro w hw hw2
      exact he2 w (List.mem_filter.2 ⟨hw, by simpa using hw2⟩)
    · refine pick m.1 (Or.inr ⟨m, hm, Or.inl rfl⟩) (by omega) (by omega) ?_
      intro w hw hw2
      by_cases hc : w.2 ≤ m.1
      · exact hc
      · exact absurd ⟨w, hw, hw2, by omega⟩ hR

theorem extErr_zero {len : Int} {c : List IP → Int} {l : List (List IP)} : extErr len c l = 0 ↔ ∀ P ∈ l, c P = 0 ∧ 0 ≤ minX P ∧ maxX P ≤ len := by
  induction l with
  | nil => simp [extErr]
  | cons P l ih =>
    unfold extErr
    by_cases h1 : c P = 0
    · rw [if_neg (by simpa using h1)]
      by_cases h2 : minX P < 0 ∨ maxX P > len
      · rw [if_pos h2]
        constructor
        · intro h; simp at h
        · intro h; have := h P (by simp); omega
      · rw [if_neg h2, ih]
        constructor
        · intro h Q hQ
          rcases List.mem_cons.1 hQ with rfl | hQ
          · exact ⟨h1, by omega, by omega⟩
          · exact h Q hQ
        · intro h Q hQ; exact h Q (by simp [hQ])
    · rw [if_pos h1]
      constructor
      · intro h; exact absurd h h1
      · intro h; exact absurd (h P (by simp)).1 h1
theorem extErr_13 {len : Int} {c : List IP → Int} {l : List (List IP)} (h : ∀ P ∈ l, c P = 0) : extErr len c l = 0 ∨ extErr len c l = 13 := by
  induction l with
  | nil => simp [extErr]
  | cons P l ih =>
    unfold extErr
    rw [if_neg (by simpa using h P (by simp))]
    by_cases h2 : minX P < 0 ∨ maxX P > len
    · rw [if_pos h2]; exact Or.inr rfl
    · rw [if_neg h2]; exact ih (fun Q hQ => h Q (by simp [hQ]))

/-- a rectangle is a valid polygon -/
theorem rect_ok {a b c d : Int} (h1 : a < b) (h2 : c < d) (ha : insI a) (hb : insI b) (hc : insI c) (hd : insI d) :
    chk [(a, c), (b, c), (b, d), (a, d)] = 0 := by
  rw [chk_ok]
  refine ⟨by simp, by simp, ?_, ?_⟩
  · intro s hs
    simp only [List.mem_cons, List.not_mem_nil, or_false] at hs
    rcases hs with rfl | rfl | rfl | rfl <;> exact ⟨by assumption, by assumption⟩
  · have p := Int.mul_pos (show 0 < b - a by omega) (show 0 < d - c by omega)
    have n0 : nth [(a, c), (b, c), (b, d), (a, d)] 0 = (a, c) := rfl
    have n1 : nth [(a, c), (b, c), (b, d), (a, d)] 1 = (b, c) := rfl
    have n2 : nth [(a, c), (b, c), (b, d), (a, d)] 2 = (b, d) := rfl
    have n3 : nth [(a, c), (b, c), (b, d), (a, d)] 3 = (a, d) := rfl
    have n4 : nth [(a, c), (b, c), (b, d), (a, d)] 4 = (a, c) := by simp [nth]
    have n5 : nth [(a, c), (b, c), (b, d), (a, d)] 5 = (b, c) := by simp [nth]
    intro i hi
    simp only [List.length_cons, List.length_nil] at hi
    have : i = 0 ∨ i = 1 ∨ i = 2 ∨ i = 3 := by omega
    rcases this with rfl | rfl | rfl | rfl
    · simp only [n0, n1, n2]
      refine ⟨by rw [ne_eq, Prod.mk.injEq]; omega, ?_, ?_, ?_⟩
      · rintro ⟨h, _, _⟩; simp only [crI] at h; grind
      · rintro ⟨h, _, _⟩; simp only [crI] at h; grind
      · intro k hk1 hk2 hk3
        simp only [List.length_cons, List.length_nil] at hk2 hk3
        have : k = 2 := by
          simp only [List.length_cons, List.length_nil, Nat.zero_add, Nat.reduceAdd, Nat.reduceSub, true_and] at hk1 hk2 hk3
          omega
        subst this
        simp only [n2, n3]
        rintro (h | h | h | h | ⟨h, _⟩)
        · have := h.2.2; simp only at this; omega
        · have := h.2.2; simp only at this; omega
        · have := h.2.2; simp only at this; omega
        · have := h.2.2; simp only at this; omega
        · simp only [DivI, crI] at h; grind
    · simp only [n1, n2, n3]
      refine ⟨by rw [ne_eq, Prod.mk.injEq]; omega, ?_, ?_, ?_⟩
      · rintro ⟨h, _, _⟩; simp only [crI] at h; grind
      · rintro ⟨h, _, _⟩; simp only [crI] at h; grind
      · intro k hk1 hk2 hk3
        simp only [List.length_cons, List.length_nil] at hk2 hk3
        have : k = 3 := by omega
        subst this
        simp only [n3, n4]
        rintro (h | h | h | h | ⟨h, _⟩)
        · have := h.2.1; simp only at this; omega
        · have := h.2.1; simp only at this; omega
        · have := h.2.1; simp only at this; omega
        · have := h.2.1; simp only at this; omega
        · simp only [DivI, crI] at h; grind
    · simp only [n2, n3, n4]
      refine ⟨by rw [ne_eq, Prod.mk.injEq]; omega, ?_, ?_, ?_⟩
      · rintro ⟨h, _, _⟩; simp only [crI] at h; grind
      · rintro ⟨h, _, _⟩; simp only [crI] at h; grind
      · intro k hk1 hk2 hk3
        simp only [List.length_cons, List.length_nil] at hk2 hk3
        omega
    · simp only [n3, n4, n5]
      refine ⟨by rw [ne_eq, Prod.mk.injEq]; omega, ?_, ?_, ?_⟩
      · rintro ⟨h, _, _⟩; simp only [crI] at h; grind
      · rintro ⟨h, _, _⟩; simp only [crI] at h; grind
      · intro k hk1 hk2 hk3
        simp only [List.length_cons, List.length_nil] at hk2 hk3
        omega

end Geo
