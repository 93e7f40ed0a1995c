/- Polygons on the grid: points outside of the box, moved polygons. -/
import Derived.Test.YtccinkbneimmhaaP11
namespace Geo
theorem sum_cyc {P : List IP} (h : IP → Int) : sumN (fun i => h (nth P (i + 1)) - h (nth P i)) P.length = 0 := by
  have key : ∀ n, sumN (fun i => h (nth P (i + 1)) - h (nth P i)) n = h (nth P n) - h (nth P 0) := by
    intro n
    induction n with
    | zero => simp [sumN]
    | succ n ih => rw [sumN, ih]; omega
  rw [key]
  have : nth P P.length = nth P 0 := by have := nth_per P 0; rw [Nat.zero_add] at this; exact this
  rw [this]; omega
theorem mul_sign {x y : Int} : (0 < x → 0 < y → 0 < x * y) ∧ (0 < x → y < 0 → x * y < 0) ∧ (0 ≤ x → 0 ≤ y → 0 ≤ x * y) ∧ (0 ≤ x → y ≤ 0 → x * y ≤ 0) := by
  refine ⟨Int.mul_pos, fun h k => ?_, Int.mul_nonneg, fun h k => ?_⟩
  · have := Int.mul_pos h (show 0 < -y by omega); rw [Int.mul_neg] at this; omega
  · have := Int.mul_nonneg h (show 0 ≤ -y by omega); rw [Int.mul_neg] at this; omega
theorem cr_alt (a b q : IP) : crI a b q = (b.1 - q.1) * (q.2 - a.2) + (q.1 - a.1) * (q.2 - b.2) := by unfold crI; grind
/-- a point to the right of all: nothing turns about it -/
theorem wsd_right {a b q : IP} (h1 : a.1 < q.1) (h2 : b.1 < q.1) : wsd a b q = 0 := by
  unfold wsd
  rw [cr_alt]
  split
  · rename_i h
    obtain ⟨h3, h4, h5⟩ := h
    have a1 := (mul_sign (x := q.2 - a.2) (y := b.1 - q.1)).2.2.2 (by omega) (by omega)
    have a2 := (mul_sign (x := q.1 - a.1) (y := q.2 - b.2)).2.1 (by omega) (by omega)
    rw [Int.mul_comm] at a1
    omega
  · split
    · rename_i h
      obtain ⟨h3, h4, h5⟩ := h
      have a1 := Int.mul_pos (show 0 < q.1 - b.1 by omega) (show 0 < a.2 - q.2 by omega)
      have a2 := (mul_sign (x := q.1 - a.1) (y := q.2 - b.2)).2.2.1 (by omega) (by omega)
      have a3 : (b.1 - q.1) * (q.2 - a.2) = (q.1 - b.1) * (a.2 - q.2) := by grind
      omega
    · rfl
/-- a point to the left of all: ups and downs alone count -/
theorem wsd_left {a b q : IP} (h1 : q.1 < a.1) (h2 : q.1 < b.1) : wsd a b q = (if b.2 > q.2 then 1 else 0) - (if a.2 > q.2 then 1 else 0) := by
  unfold wsd
  rw [cr_alt]
  by_cases h3 : a.2 ≤ q.2
  · rw [if_neg (show ¬ a.2 > q.2 by omega)]
    by_cases h4 : b.2 > q.2
    · have a1 := (mul_sign (x := b.1 - q.1) (y := q.2 - a.2)).2.2.1 (by omega) (by omega)
      have a2 := Int.mul_pos (show 0 < a.1 - q.1 by omega) (show 0 < b.2 - q.2 by omega)
      have a3 : (q.1 - a.1) * (q.2 - b.2) = (a.1 - q.1) * (b.2 - q.2) := by grind
      rw [if_pos ⟨h3, h4, by omega⟩, if_pos h4]; rfl
    · rw [if_neg (fun h => h4 h.2.1), if_neg (fun h => absurd h.1 (by omega)), if_neg h4]; rfl
  · rw [if_pos (show a.2 > q.2 by omega), if_neg (fun h => h3 h.1)]
    by_cases h4 : b.2 > q.2
    · rw [if_neg (fun h => absurd h.2.1 (by omega)), if_pos h4]; rfl
    · have a1 := (mul_sign (x := b.1 - q.1) (y := q.2 - a.2)).2.1 (by omega) (by omega)
      have a2 := (mul_sign (x := q.2 - b.2) (y := q.1 - a.1)).2.2.2 (by omega) (by omega)
      rw [Int.mul_comm] at a2
      rw [if_pos ⟨by omega, by omega, by omega⟩, if_neg h4]; rfl
theorem wsd_high {a b q : IP} (h : (a.2 < q.2 ∧ b.2 < q.2) ∨ (q.2 < a.2 ∧ q.2 < b.2)) : wsd a b q = 0 := by
  unfold wsd
  rw [if_neg (fun h2 => by omega), if_neg (fun h2 => by omega)]
theorem sumN_zero {f : Nat → Int} {n : Nat} (h : ∀ i, i < n → f i = 0) : sumN f n = 0 := by
  induction n with
  | zero => rfl
  | succ n ih => rw [sumN, ih (fun i hi => h i (by omega)), h n (by omega)]; rfl
theorem wnd_out {P : List IP} {q : IP} (h : (∀ s ∈ P, s.1 < q.1) ∨ (∀ s ∈ P, q.1 < s.1) ∨ (∀ s ∈ P, s.2 < q.2) ∨ (∀ s ∈ P, q.2 < s.2)) : wndI P q = 0 := by
  unfold wndI
  by_cases hP : P = []
  · subst hP; rfl
  rcases h with h | h | h | h
  · exact sumN_zero (fun i _ => wsd_right (h _ (nth_in hP i)) (h _ (nth_in hP (i + 1))))
  · rw [sumN_congr (fun i _ => wsd_left (h _ (nth_in hP i)) (h _ (nth_in hP (i + 1))))]
    exact sum_cyc (fun s => if s.2 > q.2 then 1 else 0)
  · exact sumN_zero (fun i _ => wsd_high (.inl ⟨h _ (nth_in hP i), h _ (nth_in hP (i + 1))⟩))
  · exact sumN_zero (fun i _ => wsd_high (.inr ⟨h _ (nth_in hP i), h _ (nth_in hP (i + 1))⟩))
theorem on_box {P : List IP} {q : IP} (h : OnI P q) : minX P ≤ q.1 ∧ q.1 ≤ maxX P ∧ minY P ≤ q.2 ∧ q.2 ≤ maxY P := by
  obtain ⟨i, hi, _, h1, h2⟩ := h
  have hP : P ≠ [] := by rintro rfl; simp at hi
  have a := nth_in hP i
  have b := nth_in hP (i + 1)
  have := (minX_spec hP).1 _ a
  have := (minX_spec hP).1 _ b
  have := (maxX_spec hP).1 _ a
  have := (maxX_spec hP).1 _ b
  have := (minY_spec hP).1 _ a
  have := (minY_spec hP).1 _ b
  have := (maxY_spec hP).1 _ a
  have := (maxY_spec hP).1 _ b
  omega
theorem pos_out {P : List IP} {q : IP} (hP : P ≠ []) (h : q.1 < minX P ∨ maxX P < q.1 ∨ q.2 < minY P ∨ maxY P < q.2) : posI P q = -1 := by
  unfold posI
  by_cases hi : insI q.1 ∧ insI q.2
  · rw [if_pos hi, if_neg (fun ho => by have := on_box ho; omega)]
    have : wndI P q = 0 := by
      apply wnd_out
      rcases h with h | h | h | h
      · exact .inr (.inl (fun s hs => by have := (minX_spec hP).1 s hs; omega))
      · exact .inl (fun s hs => by have := (maxX_spec hP).1 s hs; omega)
      · exact .inr (.inr (.inr (fun s hs => by have := (minY_spec hP).1 s hs; omega)))
      · exact .inr (.inr (.inl (fun s hs => by have := (maxY_spec hP).1 s hs; omega)))
    rw [if_pos this]
  · rw [if_neg hi]
theorem bet_left (a b : IP) : BetI a b a := by unfold BetI crI; refine ⟨by grind, by omega, by omega⟩
theorem on_vertex {P : List IP} {s : IP} (h : s ∈ P) : OnI P s := by
  obtain ⟨i, hi, e⟩ := List.mem_iff_getElem.1 h
  refine ⟨i, hi, ?_⟩
  have : nth P i = s := by unfold nth; rw [Nat.mod_eq_of_lt hi]; simp [List.getD, hi, e]
  rw [this]
  exact bet_left _ _
theorem pos_vertex {P : List IP} (h : InsI P) {s : IP} (hs : s ∈ P) : posI P s = 0 := by
  unfold posI
  rw [if_pos (h s hs), if_pos (on_vertex hs)]
/-! moved polygons -/
theorem min_in {P : List IP} (hP : P ≠ []) (h : InsI P) : insI (minX P) ∧ insI (maxX P) ∧ insI (minY P) ∧ insI (maxY P) := by
  obtain ⟨_, s, hs, e⟩ := minX_spec hP
  obtain ⟨_, s2, hs2, e2⟩ := maxX_spec hP
  obtain ⟨_, s3, hs3, e3⟩ := minY_spec hP
  obtain ⟨_, s4, hs4, e4⟩ := maxY_spec hP
  rw [e, e2, e3, e4]
  exact ⟨(h s hs).1, (h s2 hs2).1, (h s3 hs3).2, (h s4 hs4).2⟩
end Geo
