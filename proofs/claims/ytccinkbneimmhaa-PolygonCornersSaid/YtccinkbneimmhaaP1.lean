/- Polygons on the grid: what the program computes, over lists of pairs of whole numbers. -/
namespace Geo
abbrev IP := Int × Int
/-- twice the signed area of a triangle -/
def crI (a b c : IP) : Int := (b.1 - a.1) * (c.2 - a.2) - (b.2 - a.2) * (c.1 - a.1)
def BetI (a b q : IP) : Prop := crI a b q = 0 ∧ (min a.1 b.1 ≤ q.1 ∧ q.1 ≤ max a.1 b.1) ∧ (min a.2 b.2 ≤ q.2 ∧ q.2 ≤ max a.2 b.2)
def DivI (a b p q : IP) : Prop := (crI a b p < 0 ∧ 0 < crI a b q) ∨ (0 < crI a b p ∧ crI a b q < 0)
def MeetI (a b c d : IP) : Prop := BetI a b c ∨ BetI a b d ∨ BetI c d a ∨ BetI c d b ∨ (DivI a b c d ∧ DivI c d a b)
def nth (P : List IP) (i : Nat) : IP := P.getD (i % P.length) (0, 0)
/-- the program's test of a simple polygon -/
def SimpI (P : List IP) : Prop := ∀ i, i < P.length → nth P i ≠ nth P (i + 1) ∧ ¬ BetI (nth P i) (nth P (i + 1)) (nth P (i + 2)) ∧ ¬ BetI (nth P (i + 1)) (nth P (i + 2)) (nth P i) ∧
  ∀ k, i + 2 ≤ k → k < P.length → ¬ (i = 0 ∧ k = P.length - 1) → ¬ MeetI (nth P i) (nth P (i + 1)) (nth P k) (nth P (k + 1))
def insI (n : Int) : Prop := -1048576 ≤ n ∧ n ≤ 1048576
instance (n : Int) : Decidable (insI n) := inferInstanceAs (Decidable (_ ∧ _))
def InsI (P : List IP) : Prop := ∀ s ∈ P, insI s.1 ∧ insI s.2
open Classical in
noncomputable def chk (P : List IP) : Int := if 40 < P.length then 5 else if P.length < 3 then 11 else if ¬ InsI P then 3 else if SimpI P then 0 else 11
theorem chk_ok {P : List IP} : chk P = 0 ↔ P.length ≤ 40 ∧ 3 ≤ P.length ∧ InsI P ∧ SimpI P := by
  unfold chk
  constructor
  · intro h
    split at h
    · simp at h
    · split at h
      · simp at h
      · split at h
        · simp at h
        · split at h
          · rename_i h1 h2 h3 h4
            exact ⟨by omega, by omega, Classical.not_not.1 h3, h4⟩
          · simp at h
  · rintro ⟨h1, h2, h3, h4⟩
    rw [if_neg (by omega), if_neg (by omega), if_neg (by simpa using h3), if_pos h4]
def minX (P : List IP) : Int := P.foldl (fun m s => min m s.1) (P.headD (0, 0)).1
def maxX (P : List IP) : Int := P.foldl (fun m s => max m s.1) (P.headD (0, 0)).1
def minY (P : List IP) : Int := P.foldl (fun m s => min m s.2) (P.headD (0, 0)).2
def maxY (P : List IP) : Int := P.foldl (fun m s => max m s.2) (P.headD (0, 0)).2
theorem foldl_min (f : IP → Int) (l : List IP) (m : Int) : (l.foldl (fun m s => min m (f s)) m ≤ m) ∧ (∀ s ∈ l, l.foldl (fun m s => min m (f s)) m ≤ f s) ∧
    (l.foldl (fun m s => min m (f s)) m = m ∨ ∃ s ∈ l, l.foldl (fun m s => min m (f s)) m = f s) := by
  induction l generalizing m with
  | nil => simp
  | cons a l ih =>
    obtain ⟨h1, h2, h3⟩ := ih (min m (f a))
    simp only [List.foldl_cons, List.mem_cons, forall_eq_or_imp, exists_eq_or_imp]
    refine ⟨by omega, ⟨by omega, h2⟩, ?_⟩
    rcases h3 with h3 | h3
    · rw [h3]; omega
    · exact Or.inr (Or.inr h3)
theorem foldl_max (f : IP → Int) (l : List IP) (m : Int) : (m ≤ l.foldl (fun m s => max m (f s)) m) ∧ (∀ s ∈ l, f s ≤ l.foldl (fun m s => max m (f s)) m) ∧
    (l.foldl (fun m s => max m (f s)) m = m ∨ ∃ s ∈ l, l.foldl (fun m s => max m (f s)) m = f s) := by
  induction l generalizing m with
  | nil => simp
  | cons a l ih =>
    obtain ⟨h1, h2, h3⟩ := ih (max m (f a))
    simp only [List.foldl_cons, List.mem_cons, forall_eq_or_imp, exists_eq_or_imp]
    refine ⟨by omega, ⟨by omega, h2⟩, ?_⟩
    rcases h3 with h3 | h3
    · rw [h3]; omega
    · exact Or.inr (Or.inr h3)
theorem headD_mem {P : List IP} (h : P ≠ []) : P.headD (0, 0) ∈ P := by
  cases P with
  | nil => exact absurd rfl h
  | cons a l => simp
theorem minX_spec {P : List IP} (h : P ≠ []) : (∀ s ∈ P, minX P ≤ s.1) ∧ ∃ s ∈ P, minX P = s.1 := by
  obtain ⟨_, h2, h3⟩ := foldl_min (·.1) P (P.headD (0, 0)).1
  exact ⟨h2, h3.elim (fun e => ⟨_, headD_mem h, e⟩) id⟩
theorem minY_spec {P : List IP} (h : P ≠ []) : (∀ s ∈ P, minY P ≤ s.2) ∧ ∃ s ∈ P, minY P = s.2 := by
  obtain ⟨_, h2, h3⟩ := foldl_min (·.2) P (P.headD (0, 0)).2
  exact ⟨h2, h3.elim (fun e => ⟨_, headD_mem h, e⟩) id⟩
theorem maxX_spec {P : List IP} (h : P ≠ []) : (∀ s ∈ P, s.1 ≤ maxX P) ∧ ∃ s ∈ P, maxX P = s.1 := by
  obtain ⟨_, h2, h3⟩ := foldl_max (·.1) P (P.headD (0, 0)).1
  exact ⟨h2, h3.elim (fun e => ⟨_, headD_mem h, e⟩) id⟩
theorem maxY_spec {P : List IP} (h : P ≠ []) : (∀ s ∈ P, s.2 ≤ maxY P) ∧ ∃ s ∈ P, maxY P = s.2 := by
  obtain ⟨_, h2, h3⟩ := foldl_max (·.2) P (P.headD (0, 0)).2
  exact ⟨h2, h3.elim (fun e => ⟨_, headD_mem h, e⟩) id⟩
theorem prod_bound {x y M : Int} (h1 : -M ≤ x) (h2 : x ≤ M) (h3 : -M ≤ y) (h4 : y ≤ M) : -(M * M) ≤ x * y ∧ x * y ≤ M * M := by
  have hM : 0 ≤ M := by omega
  have a := Int.mul_nonneg (show 0 ≤ M - x by omega) (show 0 ≤ M + y by omega)
  have b := Int.mul_nonneg (show 0 ≤ M + x by omega) (show 0 ≤ M - y by omega)
  have c := Int.mul_nonneg (show 0 ≤ M - x by omega) (show 0 ≤ M - y by omega)
  have d := Int.mul_nonneg (show 0 ≤ M + x by omega) (show 0 ≤ M + y by omega)
  constructor <;> grind
theorem nth_in {P : List IP} (h : P ≠ []) (i : Nat) : nth P i ∈ P := by
  have hl : 0 < P.length := List.length_pos_iff.2 h
  have hm := Nat.mod_lt i hl
  have : P.getD (i % P.length) (0, 0) = P[i % P.length] := by simp [List.getD, hm]
  unfold nth
  rw [this]
  exact List.getElem_mem _
end Geo
