/- Polygons on the grid: points outside of the box, moved polygons. -/
import Derived.Test.YtccinkbneimmhaaP11
namespace Geo
theorem sum_cyc {P : List IP} (h : IP → Int) : sumN (fun i => h (nth P (i + 1)) - h (nth P i)) P.length = 0 := by
  have key : ∀ n, sumN (fun i => h (nth P (i + 1)) - h (nth P i)) n = h (nth P n) - h (nth P 0) := by
    intro n
    induction n with
    | zero => simp [sumN]
    | succ n ih => rw [sumN, ih]; omega
  rw [key]
  have : nth P P.length = nth P 0 := by have := nth_per P 0; rw [Nat.zero_add] at this; exact this
  rw [this]; omega
theorem mul_sign {x y : Int} : (0 < x → 0 < y → 0 < x * y) ∧ (0 < x → y < 0 → x * y < 0) ∧ (0 ≤ x → 0 ≤ y → 0 ≤ x * y) ∧ (0 ≤ x → y ≤ 0 → x * y ≤ 0) := by
  refine ⟨Int.mul_pos, fun h k => ?_, Int.mul_nonneg, fun h k => ?_⟩
  · have := Int.mul_pos h (show 0 < -y by omega); rw [Int.mul_neg] at this; omega
  · have := Int.mul_nonneg h (show 0 ≤ -y by omega); rw [Int.mul_neg] at this; omega
theorem cr_alt (a b q : IP) : crI a b q = (b.1 - q.1) * (q.2 - a.2) + (q.1 - a.1) * (q.2 - b.2) := by unfold crI; grind
/-- a point to the right of all: nothing turns about it -/
theorem wsd_right {a b q : IP} (h1 : a.1 < q.1) (h2 : b.1 < q.1) : wsd a b q = 0 := by
  unfold wsd
  rw [cr_alt]
  split
  · rename_i h
    obtain ⟨h3, h4, h5⟩ := h
    have a1 := (mul_sign (x := q.2 - a.2) (y := b.1 - q.1)).2.2.2 (by omega) (by omega)
    have a2 := (mul_sign (x := q.1 - a.1) (y := q.2 - b.2)).2.1 (by omega) (by omega)
    rw [Int.mul_comm] at a1
    omega
  · split
    · rename_i h
      obtain ⟨h3, h4, h5⟩ := h
      have a1 := Int.mul_pos (show 0 < q.1 - b.1 by omega) (show 0 < a.2 - q.2 by omega)
      have a2 := (mul_sign (x := q.1 - a.1) (y := q.2 - b.2)).2.2.1 (by omega) (by omega)
      have a3 : (b.1 - q.1) * (q.2 - a.2) = (q.1 - b.1) * (a.2 - q.2) := by grind
      omega
    · rfl
/-- a point to the left of all: ups and downs alone count -/
theorem wsd_left {a b q : IP} (h1 : q.1 < a.1) (h2 : q.1 < b.1) : wsd a b q = (if b.2 > q.2 then 1 else 0) - (if a.2 > q.2 then 1 else 0) := by
  unfold wsd
  rw [cr_alt]
  by_cases h3 : a.2 ≤ q.2
  · rw [if_neg (show ¬ a.2 > q.2 by omega)]
    by_cases h4 : b.2 > q.2
    · have a1 := (mul_sign (x := b.1 - q.1) (y := q.2 - a.2)).2.2.1 (by omega) (by omega)
      have a2 := Int.mul_pos (show 0 < a.1 - q.1 by omega) (show 0 < b.2 - q.2 by omega)
      have a3 : (q.1 - a.1) * (q.2 - b.2) = (a.1 - q.1) * (b.2 - q.2) := by grind
      rw [if_pos ⟨h3, h4, by omega⟩, if_pos h4]; rfl
    · rw [if_neg (fun h => h4 h.2.1), if_neg (fun h => absurd h.1 (by omega)), if_neg h4]; rfl
  · rw [if_pos (show a.2 > q.2 by omega), if_neg (fun h => h3 h.1)]
    by_cases h4 : b.2 > q.2
    · rw [if_neg (fun h => absurd h.2.1 (by omega)), if_pos h4]; rfl
    · have a1 := (mul_sign (x := b.1 - q.1) (y := q.2 - a.2)).2.1 (by omega) (by omega)
      have a2 := (mul_sign (x := q.2 - b.2) (y := q.1 - a.1)).2.2.2 (by omega) (by omega)
      rw [Int.mul_comm] at a2
      rw [if_pos ⟨by omega, by omega, by omega⟩, if_neg h4]; rfl
theorem wsd_high {a b q : IP} (h : (a.2 < q.2 ∧ b.2 < q.2) ∨ (q.2 < a.2 ∧ q.2 < b.2)) : wsd a b q = 0 := by
  unfold wsd
  rw [if_neg (fun h2 => by omega), if_neg (fun h2 => by omega)]
theorem sumN_zero {f : Nat → Int} {n : Nat} (h : ∀ i, i < n → f i = 0) : sumN f n = 0 := by
  induction n with
  | zero => rfl
  | succ n ih => rw [sumN, ih (fun i hi => h i (by omega)), h n (by omega)]; rfl
theorem wnd_out {P : List IP} {q : IP} (h : (∀ s ∈ P, s.1 < q.1) ∨ (∀ s ∈ P, q.1 < s.1) ∨ (∀ s ∈ P, s.2 < q.2) ∨ (∀ s ∈ P, q.2 < s.2)) : wndI P q = 0 := by
  unfold wndI
  by_cases hP : P = []
  · subst hP; rfl
  rcases h with h | h | h | h
  · exact sumN_zero (fun i _ => wsd_right (h _ (nth_in hP i)) (h _ (nth_in hP (i + 1))))
  · rw [sumN_congr (fun i _ => wsd_left (h _ (nth_in hP i)) (h _ (nth_in hP (i + 1))))]
    exact sum_cyc (fun s => if s.2 > q.2 then 1 else 0)
  · exact sumN_zero (fun i _ => wsd_high (.inl ⟨h _ (nth_in hP i), h _ (nth_in hP (i + 1))⟩))
  · exact sumN_zero (fun i _ => wsd_high (.inr ⟨h _ (nth_in hP i), h _ (nth_in hP (i + 1))⟩))
theorem on_box {P : List IP} {q : IP} (h : OnI P q) : minX P ≤ q.1 ∧ q.1 ≤ maxX P ∧ minY P ≤ q.2 ∧ q.2 ≤ maxY P := by
  obtain ⟨i, hi, _, h1, h2⟩ := h
  have hP : P ≠ [] := by rintro rfl; simp at hi
  have a := nth_in hP i
  have b := nth_in hP (i + 1)
  have := (minX_spec hP).1 _ a
  have := (minX_spec hP).1 _ b
  have := (maxX_spec hP).1 _ a
  have := (maxX_spec hP).1 _ b
  have := (minY_spec hP).1 _ a
  have := (minY_spec hP).1 _ b
  have := (maxY_spec hP).1 _ a
  have := (maxY_spec hP).1 _ b
  omega
theorem pos_out {P : List IP} {q : IP} (hP : P ≠ []) (h : q.1 < minX P ∨ maxX P < q.1 ∨ q.2 < minY P ∨ maxY P < q.2) : posI P q = -1 := by
  unfold posI
  by_cases hi : insI q.1 ∧ insI q.2
  · rw [if_pos hi, if_neg (fun ho => by have := on_box ho; omega)]
    have : wndI P q = 0 := by
      apply wnd_out
      rcases h with h | h | h | h
      · exact .inr (.inl (fun s hs => by have := (minX_spec hP).1 s hs; omega))
      · exact .inl (fun s hs => by have := (maxX_spec hP).1 s hs; omega)
      · exact .inr (.inr (.inr (fun s hs => by have := (minY_spec hP).1 s hs; omega)))
      · exact .inr (.inr (.inl (fun s hs => by have := (maxY_spec hP).1 s hs; omega)))
    rw [if_pos this]
  · rw [if_neg hi]
/-! moved polygons -/
def mvp (d s : IP) : IP := (s.1 + d.1, s.2 + d.2)
def mvI (d : IP) (P : List IP) : List IP := P.map (mvp d)
theorem mv_len (d : IP) (P : List IP) : (mvI d P).length = P.length := by simp [mvI]
theorem nth_mv {d : IP} {P : List IP} (hP : P ≠ []) (i : Nat) : nth (mvI d P) i = mvp d (nth P i) := by
  have hm : i % P.length < P.length := Nat.mod_lt _ (List.length_pos_iff.2 hP)
  unfold nth
  rw [mv_len]
  unfold mvI
  simp only [List.getD, List.getElem?_map, List.getElem?_eq_getElem hm, Option.map_some, Option.getD_some]
theorem cr_mv (d a b c : IP) : crI (mvp d a) (mvp d b) (mvp d c) = crI a b c := by unfold crI mvp; grind
theorem bet_mv {d a b q : IP} : BetI (mvp d a) (mvp d b) (mvp d q) ↔ BetI a b q := by
  unfold BetI
  rw [cr_mv]
  unfold mvp
  simp only
  omega
theorem meet_mv {d a b c e : IP} : MeetI (mvp d a) (mvp d b) (mvp d c) (mvp d e) ↔ MeetI a b c e := by unfold MeetI DivI; simp only [bet_mv, cr_mv]
theorem mvp_inj {d a b : IP} : mvp d a = mvp d b ↔ a = b := by
  unfold mvp
  constructor
  · intro h; simp only [Prod.mk.injEq] at h; exact Prod.ext (by omega) (by omega)
  · rintro rfl; rfl
theorem simp_mv {d : IP} {P : List IP} (hP : P ≠ []) : SimpI (mvI d P) ↔ SimpI P := by
  unfold SimpI
  simp only [mv_len, nth_mv hP, bet_mv, meet_mv, ne_eq, mvp_inj]
theorem chk_mv {d : IP} {P : List IP} (h : chk P = 0) : chk (mvI d P) = 0 ∨ chk (mvI d P) = 3 := by
  obtain ⟨h1, h2, _, h4⟩ := chk_ok.1 h
  have hP : P ≠ [] := by rintro rfl; simp at h2
  by_cases hi : InsI (mvI d P)
  · exact .inl (chk_ok.2 ⟨by rw [mv_len]; exact h1, by rw [mv_len]; exact h2, hi, (simp_mv hP).2 h4⟩)
  · right
    unfold chk
    rw [mv_len, if_neg (by omega), if_neg (by omega), if_pos hi]
theorem wsd_mv (d a b q : IP) : wsd (mvp d a) (mvp d b) (mvp d q) = wsd a b q := by
  unfold wsd
  rw [cr_mv]
  have e1 : (mvp d a).2 ≤ (mvp d q).2 ↔ a.2 ≤ q.2 := by unfold mvp; simp only; omega
  have e2 : (mvp d b).2 > (mvp d q).2 ↔ b.2 > q.2 := by unfold mvp; simp only; omega
  have e3 : (mvp d a).2 > (mvp d q).2 ↔ a.2 > q.2 := by unfold mvp; simp only; omega
  have e4 : (mvp d b).2 ≤ (mvp d q).2 ↔ b.2 ≤ q.2 := by unfold mvp; simp only; omega
  simp only [e1, e2, e3, e4]
theorem wnd_mv {d : IP} {P : List IP} (hP : P ≠ []) (q : IP) : wndI (mvI d P) (mvp d q) = wndI P q := by
  unfold wndI
  rw [mv_len]
  exact sumN_congr (fun i _ => by rw [nth_mv hP, nth_mv hP, wsd_mv])
theorem on_mv {d : IP} {P : List IP} (hP : P ≠ []) {q : IP} : OnI (mvI d P) (mvp d q) ↔ OnI P q := by
  unfold OnI
  simp only [mv_len, nth_mv hP, bet_mv]
theorem area_mv {d : IP} {P : List IP} (hP : P ≠ []) : areaI (mvI d P) = areaI P := by
  unfold areaI
  rw [mv_len]
  have e : sumN (fun i => trap (nth (mvI d P) i) (nth (mvI d P) (i + 1))) P.length = sumN (fun i => trap (nth P i) (nth P (i + 1)) + (2 * d.2 * (nth P (i + 1)).1 - 2 * d.2 * (nth P i).1)) P.length :=
    sumN_congr (fun i _ => by rw [nth_mv hP, nth_mv hP]; unfold trap mvp; grind)
  rw [e, sumN_add, sum_cyc (fun s => 2 * d.2 * s.1)]
  omega
theorem fold_min_mv (f : IP → Int) (e : Int) (d : IP) (hf : ∀ s, f (mvp d s) = f s + e) (l : List IP) (m : Int) : (l.map (mvp d)).foldl (fun m s => min m (f s)) (m + e) = l.foldl (fun m s => min m (f s)) m + e := by
  induction l generalizing m with
  | nil => rfl
  | cons a l ih => rw [List.map_cons, List.foldl_cons, List.foldl_cons, ← ih, hf]; congr 1; omega
theorem fold_max_mv (f : IP → Int) (e : Int) (d : IP) (hf : ∀ s, f (mvp d s) = f s + e) (l : List IP) (m : Int) : (l.map (mvp d)).foldl (fun m s => max m (f s)) (m + e) = l.foldl (fun m s => max m (f s)) m + e := by
  induction l generalizing m with
  | nil => rfl
  | cons a l ih => rw [List.map_cons, List.foldl_cons, List.foldl_cons, ← ih, hf]; congr 1; omega
theorem head_mv {d : IP} {P : List IP} (hP : P ≠ []) : (mvI d P).headD (0, 0) = mvp d (P.headD (0, 0)) := by
  cases P with
  | nil => exact absurd rfl hP
  | cons a l => rfl
theorem box_mv {d : IP} {P : List IP} (hP : P ≠ []) : minX (mvI d P) = minX P + d.1 ∧ maxX (mvI d P) = maxX P + d.1 ∧ minY (mvI d P) = minY P + d.2 ∧ maxY (mvI d P) = maxY P + d.2 := by
  unfold minX maxX minY maxY
  rw [head_mv hP]
  exact ⟨fold_min_mv (·.1) d.1 d (fun _ => rfl) P _, fold_max_mv (·.1) d.1 d (fun _ => rfl) P _, fold_min_mv (·.2) d.2 d (fun _ => rfl) P _, fold_max_mv (·.2) d.2 d (fun _ => rfl) P _⟩
theorem min_in {P : List IP} (hP : P ≠ []) (h : InsI P) : insI (minX P) ∧ insI (maxX P) ∧ insI (minY P) ∧ insI (maxY P) := by
  obtain ⟨_, s, hs, e⟩ := minX_spec hP
  obtain ⟨_, s2, hs2, e2⟩ := maxX_spec hP
  obtain ⟨_, s3, hs3, e3⟩ := minY_spec hP
  obtain ⟨_, s4, hs4, e4⟩ := maxY_spec hP
  rw [e, e2, e3, e4]
  exact ⟨(h s hs).1, (h s2 hs2).1, (h s3 hs3).2, (h s4 hs4).2⟩
/-- a point keeps its position when it is moved with the polygon -/
theorem pos_mv {d q : IP} {P : List IP} (h : chk P = 0) (hm : chk (mvI d P) = 0) (hq : insI q.1 ∧ insI q.2) : posI (mvI d P) (mvp d q) = posI P q := by
  obtain ⟨h1, h2, _, h4⟩ := chk_ok.1 h
  have hP : P ≠ [] := by rintro rfl; simp at h2
  by_cases hi : insI (mvp d q).1 ∧ insI (mvp d q).2
  · unfold posI
    rw [if_pos hi, if_pos hq, show OnI (mvI d P) (mvp d q) = OnI P q from propext (on_mv hP), wnd_mv hP]
  · have hb := min_in (P := mvI d P) (by intro e; have := congrArg List.length e; rw [mv_len] at this; exact hP (List.length_eq_zero_iff.1 this)) (chk_ok.1 hm).2.2.1
    obtain ⟨e1, e2, e3, e4⟩ := box_mv (d := d) hP
    have out : q.1 < minX P ∨ maxX P < q.1 ∨ q.2 < minY P ∨ maxY P < q.2 := by
      rw [e1, e2, e3, e4] at hb
      unfold insI mvp at *
      simp only at hi
      omega
    rw [pos_out hP out]
    unfold posI
    rw [if_neg hi]
end Geo
