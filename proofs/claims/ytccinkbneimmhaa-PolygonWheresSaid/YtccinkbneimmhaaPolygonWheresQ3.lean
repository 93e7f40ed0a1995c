/- Parts of the proof of PolygonWheres, joined: G10, G11, G12, G13, R11c, K11, Aw11, L11, LPolygonWheres. -/
import Derived.Test.YtccinkbneimmhaaPolygonWheresQ2
set_option linter.unusedVariables false
set_option linter.unusedSimpArgs false
section
/- A point off a polygon has room in every direction. A simple polygon winds about each point off it 0 times or s times, s being 1 or -1. -/
namespace Geo
theorem sep {u v x : Pt} (h : ¬ On u v x) : ∃ p q r : Rat, p * x.1 + q * x.2 + r < 0 ∧ ∀ y, On u v y → 0 ≤ p * y.1 + q * y.2 + r := by
  by_cases hc : cr u v x = 0
  · by_cases huv : u = v
    · subst huv
      have key : ∀ y, On u u y → y = u := by
        rintro y ⟨t, _, _, e⟩
        rw [e]; apply Prod.ext <;> simp only <;> grind
      by_cases h1 : x.1 < u.1
      · exact ⟨1, 0, -u.1, by grind, fun y hy => by rw [key y hy]; grind⟩
      by_cases h2 : u.1 < x.1
      · exact ⟨-1, 0, u.1, by grind, fun y hy => by rw [key y hy]; grind⟩
      by_cases h3 : x.2 < u.2
      · exact ⟨0, 1, -u.2, by grind, fun y hy => by rw [key y hy]; grind⟩
      by_cases h4 : u.2 < x.2
      · exact ⟨0, -1, u.2, by grind, fun y hy => by rw [key y hy]; grind⟩
      exact absurd ((Prod.ext (by grind) (by grind) : x = u) ▸ On_left u u) h
    · have hN : 0 < (v.1 - u.1) * (v.1 - u.1) + (v.2 - u.2) * (v.2 - u.2) := by
        by_cases a1 : v.1 - u.1 = 0
        · have a2 : v.2 - u.2 ≠ 0 := fun a2 => huv (Prod.ext (by grind) (by grind))
          rw [a1]
          rcases (by grind : v.2 - u.2 < 0 ∨ 0 < v.2 - u.2) with g | g
          · have := Rat.mul_pos (show 0 < -(v.2 - u.2) by grind) (show 0 < -(v.2 - u.2) by grind); grind
          · have := Rat.mul_pos g g; grind
        · have q2 : 0 ≤ (v.2 - u.2) * (v.2 - u.2) := by
            by_cases g : 0 ≤ v.2 - u.2
            · exact Rat.mul_nonneg g g
            · have := Rat.mul_nonneg (show 0 ≤ -(v.2 - u.2) by grind) (show 0 ≤ -(v.2 - u.2) by grind); grind
          rcases (by grind : v.1 - u.1 < 0 ∨ 0 < v.1 - u.1) with g | g
          · have := Rat.mul_pos (show 0 < -(v.1 - u.1) by grind) (show 0 < -(v.1 - u.1) by grind); grind
          · have := Rat.mul_pos g g; grind
      have fy : ∀ y, On u v y → ∃ t : Rat, 0 ≤ t ∧ t ≤ 1 ∧ (y.1 - u.1) * (v.1 - u.1) + (y.2 - u.2) * (v.2 - u.2) = t * ((v.1 - u.1) * (v.1 - u.1) + (v.2 - u.2) * (v.2 - u.2)) := by
        rintro y ⟨t, t0, t1, e⟩
        refine ⟨t, t0, t1, ?_⟩
        rw [e]; simp only; grind
      by_cases g1 : (x.1 - u.1) * (v.1 - u.1) + (x.2 - u.2) * (v.2 - u.2) < 0
      · refine ⟨v.1 - u.1, v.2 - u.2, -(u.1 * (v.1 - u.1) + u.2 * (v.2 - u.2)), by grind, fun y hy => ?_⟩
        obtain ⟨t, t0, t1, e⟩ := fy y hy
        have := Rat.mul_nonneg t0 (Rat.le_of_lt hN)
        grind
      by_cases g2 : (v.1 - u.1) * (v.1 - u.1) + (v.2 - u.2) * (v.2 - u.2) < (x.1 - u.1) * (v.1 - u.1) + (x.2 - u.2) * (v.2 - u.2)
      · refine ⟨-(v.1 - u.1), -(v.2 - u.2), u.1 * (v.1 - u.1) + u.2 * (v.2 - u.2) + ((v.1 - u.1) * (v.1 - u.1) + (v.2 - u.2) * (v.2 - u.2)), by grind, fun y hy => ?_⟩
        obtain ⟨t, t0, t1, e⟩ := fy y hy
        have := Rat.mul_nonneg (show 0 ≤ 1 - t by grind) (Rat.le_of_lt hN)
        grind
      exfalso
      apply h
      have f0 : 0 ≤ (x.1 - u.1) * (v.1 - u.1) + (x.2 - u.2) * (v.2 - u.2) := by grind
      have f1 : (x.1 - u.1) * (v.1 - u.1) + (x.2 - u.2) * (v.2 - u.2) ≤ (v.1 - u.1) * (v.1 - u.1) + (v.2 - u.2) * (v.2 - u.2) := by grind
      have n0 : (v.1 - u.1) * (v.1 - u.1) + (v.2 - u.2) * (v.2 - u.2) ≠ 0 := by grind
      have z1 : (x.1 - u.1) * ((v.1 - u.1) * (v.1 - u.1) + (v.2 - u.2) * (v.2 - u.2)) = (v.1 - u.1) * ((x.1 - u.1) * (v.1 - u.1) + (x.2 - u.2) * (v.2 - u.2)) := by unfold cr at hc; grind
      have z2 : (x.2 - u.2) * ((v.1 - u.1) * (v.1 - u.1) + (v.2 - u.2) * (v.2 - u.2)) = (v.2 - u.2) * ((x.1 - u.1) * (v.1 - u.1) + (x.2 - u.2) * (v.2 - u.2)) := by unfold cr at hc; grind
      refine ⟨_, div_nn hN f0, div_le1 hN f1, ?_⟩
      clear hc h g1 g2 fy huv
      generalize (v.1 - u.1) * (v.1 - u.1) + (v.2 - u.2) * (v.2 - u.2) = N at *
      generalize (x.1 - u.1) * (v.1 - u.1) + (x.2 - u.2) * (v.2 - u.2) = f at *
      apply Prod.ext
      · simp only; grind
      · simp only; grind
  · have key : ∀ y, On u v y → cr u v y = 0 := fun y hy => On_cr hy
    by_cases g : cr u v x < 0
    · refine ⟨-(v.2 - u.2), v.1 - u.1, -((v.1 - u.1) * u.2) + (v.2 - u.2) * u.1, by unfold cr at g; grind, fun y hy => ?_⟩
      have := key y hy
      unfold cr at this; grind
    · refine ⟨v.2 - u.2, -(v.1 - u.1), (v.1 - u.1) * u.2 - (v.2 - u.2) * u.1, by unfold cr at g hc; grind, fun y hy => ?_⟩
      have := key y hy
      unfold cr at this; grind
theorem room_lin {c g : Rat} (h : c < 0) : ∃ ε : Rat, 0 < ε ∧ ∀ t, 0 ≤ t → t ≤ ε → c + t * g < 0 := by
  by_cases hg : g ≤ 0
  · refine ⟨1, by grind, fun t t0 _ => ?_⟩
    have := Rat.mul_nonneg t0 (show 0 ≤ -g by grind)
    grind
  · have hg' : 0 < g := by grind
    have hp : 0 < -c / 2 := by grind
    refine ⟨(-c / 2) / g, div_pos hg' hp, fun t t0 t1 => ?_⟩
    have e : (-c / 2) / g * g = -c / 2 := by grind
    have := Rat.mul_nonneg (show 0 ≤ (-c / 2) / g - t by grind) (Rat.le_of_lt hg')
    grind
theorem room1 {u v x : Pt} (h : ¬ On u v x) (d : Pt) : ∃ ε : Rat, 0 < ε ∧ ∀ t, 0 ≤ t → t ≤ ε → ¬ On u v (x.1 + t * d.1, x.2 + t * d.2) := by
  obtain ⟨p, q, r, h1, h2⟩ := sep h
  obtain ⟨ε, e0, he⟩ := room_lin (c := p * x.1 + q * x.2 + r) (g := p * d.1 + q * d.2) h1
  refine ⟨ε, e0, fun t t0 t1 ho => ?_⟩
  have a := he t t0 t1
  have b := h2 _ ho
  simp only at b
  grind
theorem room_list (l : List (Pt × Pt)) (x d : Pt) (h : ∀ e ∈ l, ¬ On e.1 e.2 x) : ∃ ε : Rat, 0 < ε ∧ ∀ t, 0 ≤ t → t ≤ ε → ∀ e ∈ l, ¬ On e.1 e.2 (x.1 + t * d.1, x.2 + t * d.2) := by
  induction l with
  | nil => exact ⟨1, by grind, fun _ _ _ e he => by simp at he⟩
  | cons a l ih =>
    obtain ⟨ε1, p1, h1⟩ := ih (fun e he => h e (List.mem_cons_of_mem _ he))
    obtain ⟨ε2, p2, h2⟩ := room1 (h a (List.mem_cons_self ..)) d
    by_cases hle : ε1 ≤ ε2
    · refine ⟨ε1, p1, fun t t0 t1 e he => ?_⟩
      rcases List.mem_cons.1 he with rfl | he
      · exact h2 t t0 (by grind)
      · exact h1 t t0 t1 e he
    · refine ⟨ε2, p2, fun t t0 t1 e he => ?_⟩
      rcases List.mem_cons.1 he with rfl | he
      · exact h2 t t0 t1
      · exact h1 t t0 (by grind) e he
theorem room {P : List Pt} {x : Pt} (h : Off P x) (d : Pt) : ∃ ε : Rat, 0 < ε ∧ ∀ t, 0 ≤ t → t ≤ ε → Off P (x.1 + t * d.1, x.2 + t * d.2) := room_list (ces P) x d h
/-- along what is off, the count stays -/
theorem room_cw {P : List Pt} {x d : Pt} {ε : Rat} (h : ∀ t, 0 ≤ t → t ≤ ε → Off P (x.1 + t * d.1, x.2 + t * d.2)) (e0 : 0 ≤ ε) : cw P (x.1 + ε * d.1, x.2 + ε * d.2) = cw P x := by
  apply cw_move
  rintro e he y ⟨t, t0, t1, hy⟩ ho
  have e : y = (x.1 + (t * ε) * d.1, x.2 + (t * ε) * d.2) := by rw [hy]; apply Prod.ext <;> simp only <;> grind
  have p1 := Rat.mul_nonneg t0 e0
  have p2 := Rat.mul_nonneg (show 0 ≤ 1 - t by grind) e0
  rw [e] at ho
  exact h (t * ε) p1 (by grind) _ he ho
end Geo
end
section
/- A simple polygon winds about each point off it 0 times or s times, s being 1 or -1. -/
namespace Geo
theorem Rot.off {P Q : List Pt} (h : Rot P Q) {q : Pt} (o : Off P q) : Off Q q := fun e he => o e ((h.ces e).2 he)
/-- in the ear: the count is the ear's sign -/
theorem Good.inner {P L : List Pt} {v a b : Pt} (g : Good P v L a b) (hl : 3 ≤ L.length) {q : Pt}
    (q1 : 0 < bc v b a q) (q2 : 0 ≤ bc b a v q) (q3 : 0 < bc a v b q) : cw P q = sg (cr a v b) := by
  obtain ⟨M, hb⟩ := g.seen.head
  obtain ⟨N, ha⟩ := g.seen.last
  obtain ⟨m1, m2, m3⟩ := mid_in g.seen.turn
  rw [g.rot.cw, g.seen.const g.empty hl m1 (Rat.le_of_lt m2) m3 q1 q2 q3, cw_cons hb ha, g.seen.apex g.empty m1 m2 m3, g.out, triIn g.seen.turn m1 m2 m3]
  omega
/-- outside of the ear: the count is that of what is left -/
theorem Good.outer {P L : List Pt} {v a b : Pt} (g : Good P v L a b) {q : Pt} (h : ¬ InT a v b q) : cw P q = cw L q := by
  obtain ⟨M, hb⟩ := g.seen.head
  obtain ⟨N, ha⟩ := g.seen.last
  rw [g.rot.cw, cw_cons hb ha, triOut g.seen.turn h]
  omega
theorem On_InT {a v b q : Pt} (h : cr a v b ≠ 0) (ho : On a b q) : InT a v b q := by
  obtain ⟨t, t0, t1, e⟩ := ho
  have hr1 : cr v b a ≠ 0 := by rw [cr_rot2]; exact h
  have e1 := bc_aff v b a e
  have e2 := bc_aff b a v e
  have e3 := bc_aff a v b e
  rw [bc_b hr1, bc_v] at e1
  rw [bc_v, bc_a] at e2
  rw [bc_a, bc_b h] at e3
  exact ⟨by grind, by grind, by grind⟩
/-- off the polygon and in the ear's triangle: strictly within its two sides -/
theorem Good.within {P L : List Pt} {v a b : Pt} (g : Good P v L a b) {q : Pt} (o : Off P q) (h : InT a v b q) : 0 < bc v b a q ∧ 0 ≤ bc b a v q ∧ 0 < bc a v b q := by
  obtain ⟨M, hb⟩ := g.seen.head
  obtain ⟨N, ha⟩ := g.seen.last
  have hr1 : cr v b a ≠ 0 := by rw [cr_rot2]; exact g.seen.turn
  have o2 := g.rot.off o
  obtain ⟨h1, h2, h3⟩ := h
  refine ⟨?_, h2, ?_⟩
  · rcases (by grind : bc v b a q = 0 ∨ 0 < bc v b a q) with e | e
    · exact absurd (On_side hr1 e h2 h3) (o2 (v, b) ((ces_cons hb ha _).2 (Or.inl rfl)))
    · exact e
  · rcases (by grind : bc a v b q = 0 ∨ 0 < bc a v b q) with e | e
    · exact absurd (On_side g.seen.turn e h1 h2) (o2 (a, v) ((ces_cons hb ha _).2 (Or.inr (Or.inr rfl))))
    · exact e
theorem Good.offL {P L : List Pt} {v a b : Pt} (g : Good P v L a b) {q : Pt} (o : Off P q) (h : ¬ InT a v b q) : Off L q := by
  obtain ⟨M, hb⟩ := g.seen.head
  obtain ⟨N, ha⟩ := g.seen.last
  intro e he ho
  rcases (ces_L hb ha e).1 he with h1 | rfl
  · exact g.rot.off o e ((ces_cons hb ha e).2 (Or.inr (Or.inl h1))) ho
  · exact h (On_InT g.seen.turn ho)
/-- a triangle's sides alone -/
theorem Good.tri {P L : List Pt} {v a b : Pt} (g : Good P v L a b) (hl : L.length = 2) {q : Pt} (o : Off P q) : (InT a v b q → cw P q = sg (cr a v b)) ∧ (¬ InT a v b q → cw P q = 0) := by
  obtain ⟨M, hb⟩ := g.seen.head
  obtain ⟨N, ha⟩ := g.seen.last
  obtain ⟨c, rfl⟩ : ∃ c, M = [c] := by
    rw [hb] at hl
    match M, hl with
    | [c], _ => exact ⟨c, rfl⟩
    | [], h => simp at h
    | _ :: _ :: _, h => simp at h
  have hc : c = a := by
    rw [hb] at ha
    have := congrArg List.getLast? ha
    simpa using this
  subst hc
  have e0 : cw L q = 0 := by
    rw [hb]
    show cc b c q + (cc c b q + 0) = 0
    rw [cc_anti]; omega
  have e1 := cw_cons (v := v) hb ha q
  rw [e0] at e1
  have hr2 : cr b c v ≠ 0 := by rw [← cr_rot2]; exact g.seen.turn
  constructor
  · intro h
    obtain ⟨p1, p2, p3⟩ := g.within o h
    have p2' : 0 < bc b c v q := by
      rcases (by grind : bc b c v q = 0 ∨ 0 < bc b c v q) with e | e
      · have hba : (b, c) ∈ ces (v :: L) := (ces_cons hb ha _).2 (Or.inr (Or.inl (by rw [hb]; simp [es])))
        exact absurd (On_side hr2 e (Rat.le_of_lt p3) (Rat.le_of_lt p1)) (g.rot.off o (b, c) hba)
      · exact e
    rw [g.rot.cw, e1, triIn g.seen.turn p1 p2' p3]; omega
  · intro h
    rw [g.rot.cw, e1, triOut g.seen.turn h]; omega
theorem sg_cases {d : Rat} (h : d ≠ 0) : sg d = 1 ∨ sg d = -1 := by
  unfold sg
  by_cases g : 0 < d
  · rw [if_pos g]; exact Or.inl rfl
  · rw [if_neg g, if_pos (by grind)]; exact Or.inr rfl
theorem some_side {P : List Pt} (h : Simp P) : ∃ x y, (x, y) ∈ ces P := by
  have := h.len
  match P, this with
  | x :: _, _ => obtain ⟨w', hw⟩ := ces_out (P := x :: _) (w := x) (by simp); exact ⟨x, w', hw⟩
/-- across the ear's third side there is a point off the polygon where the count is the ear's sign -/
theorem Good.across {P L : List Pt} {v a b : Pt} (g : Good P v L a b) (hP : Simp P) (hl : 3 ≤ L.length) : ∃ y, Off P y ∧ ¬ InT a v b y ∧ cw P y = sg (cr a v b) := by
  have hr1 : cr v b a ≠ 0 := by rw [cr_rot2]; exact g.seen.turn
  have hr2 : cr b a v ≠ 0 := by rw [← cr_rot2]; exact g.seen.turn
  have hx : ∀ {x : Pt} {t : Rat}, x = (a.1 + t * (b.1 - a.1), a.2 + t * (b.2 - a.2)) → bc v b a x = 1 - t ∧ bc b a v x = 0 ∧ bc a v b x = t := by
    intro x t e
    have e1 := bc_aff v b a e
    have e2 := bc_aff b a v e
    have e3 := bc_aff a v b e
    rw [bc_b hr1, bc_v] at e1
    rw [bc_v, bc_a] at e2
    rw [bc_a, bc_b g.seen.turn] at e3
    exact ⟨by grind, by grind, by grind⟩
  obtain ⟨x1, x2, x3⟩ := hx (x := (a.1 + (1/2) * (b.1 - a.1), a.2 + (1/2) * (b.2 - a.2))) (t := 1/2) rfl
  generalize (a.1 + (1/2) * (b.1 - a.1), a.2 + (1/2) * (b.2 - a.2)) = x at *
  have px1 : 0 < bc v b a x := by rw [x1]; grind
  have px3 : 0 < bc a v b x := by rw [x3]; grind
  have ox : Off P x := by
    intro e he ho
    exact g.seen.clear g.empty hl ((g.rot.ces e).1 he) ho px1 (by grind) px3
  obtain ⟨ε, e0, he⟩ := room ox (x.1 - v.1, x.2 - v.2)
  refine ⟨_, he ε (Rat.le_of_lt e0) (by grind), ?_, ?_⟩
  · rintro ⟨_, h2, _⟩
    have := bc_aff b a v (u := x) (w := (x.1 + (x.1 - v.1), x.2 + (x.2 - v.2))) (x := (x.1 + ε * (x.1 - v.1, x.2 - v.2).1, x.2 + ε * (x.1 - v.1, x.2 - v.2).2)) (s := ε) (by apply Prod.ext <;> simp only <;> grind)
    have k := bc_aff b a v (u := v) (w := x) (x := (x.1 + (x.1 - v.1), x.2 + (x.2 - v.2))) (s := 2) (by apply Prod.ext <;> simp only <;> grind)
    rw [bc_b hr2] at k
    rw [this, k, x2] at h2
    have := Rat.mul_pos e0 (show (0 : Rat) < 1 by grind)
    grind
  · rw [room_cw he (Rat.le_of_lt e0)]
    exact g.inner hl px1 (by grind) px3
/-- the winding of a simple polygon -/
theorem orient : ∀ (n : Nat) (P : List Pt), P.length = n → Simp P → ∃ s : Int, (s = 1 ∨ s = -1) ∧ ∀ q, Off P q → cw P q = 0 ∨ cw P q = s := by
  intro n
  induction n using Nat.strongRecOn with
  | ind n ih =>
    intro P hn hP
    obtain ⟨x, y, hxy⟩ := some_side hP
    obtain ⟨v, L, a, b, g, _, _⟩ := ears n P hn hP x y hxy
    have hlen := g.rot.length
    simp only [List.length_cons] at hlen
    have h3 := hP.len
    by_cases hl : L.length = 2
    · refine ⟨sg (cr a v b), sg_cases g.seen.turn, fun q o => ?_⟩
      by_cases hi : InT a v b q
      · exact Or.inr ((g.tri hl o).1 hi)
      · exact Or.inl ((g.tri hl o).2 hi)
    · have hl3 : 3 ≤ L.length := by omega
      obtain ⟨s, hs, hL⟩ := ih L.length (by omega) L rfl (g.seen.cut g.empty hl3)
      have es : sg (cr a v b) = s := by
        obtain ⟨y, oy, ny, ey⟩ := g.across hP hl3
        rcases hL y (g.offL oy ny) with h | h
        · rw [g.outer ny, h] at ey
          rcases sg_cases g.seen.turn with k | k <;> omega
        · rw [← h, ← g.outer ny, ey]
      refine ⟨s, hs, fun q o => ?_⟩
      by_cases hi : InT a v b q
      · obtain ⟨p1, p2, p3⟩ := g.within o hi
        exact Or.inr (by rw [g.inner hl3 p1 p2 p3, es])
      · rw [g.outer hi]
        exact hL q (g.offL o hi)
end Geo
end
section
/- From the grid to the plane: what the program tests of whole numbers, told of points with rational coordinates. -/
namespace Geo
def cz (p : IP) : Pt := ((p.1 : Rat), (p.2 : Rat))
theorem cz_inj {p q : IP} : cz p = cz q ↔ p = q := by
  unfold cz
  constructor
  · intro h
    simp only [Prod.mk.injEq] at h
    exact Prod.ext (Rat.intCast_inj.1 h.1) (Rat.intCast_inj.1 h.2)
  · rintro rfl; rfl
theorem cz_cr (a b c : IP) : cr (cz a) (cz b) (cz c) = ((crI a b c : Int) : Rat) := by
  unfold cr crI cz
  simp only [Rat.intCast_sub, Rat.intCast_mul]
theorem cr_pos (a b c : IP) : 0 < cr (cz a) (cz b) (cz c) ↔ 0 < crI a b c := by rw [cz_cr]; exact_mod_cast Iff.rfl
theorem cr_neg (a b c : IP) : cr (cz a) (cz b) (cz c) < 0 ↔ crI a b c < 0 := by rw [cz_cr]; exact_mod_cast Iff.rfl
theorem cr_nil (a b c : IP) : cr (cz a) (cz b) (cz c) = 0 ↔ crI a b c = 0 := by rw [cz_cr]; exact_mod_cast Iff.rfl
theorem cz_le1 {a b : IP} : (cz a).1 ≤ (cz b).1 ↔ a.1 ≤ b.1 := Rat.intCast_le_intCast
theorem cz_le2 {a b : IP} : (cz a).2 ≤ (cz b).2 ↔ a.2 ≤ b.2 := Rat.intCast_le_intCast
theorem cz_lt2 {a b : IP} : (cz a).2 < (cz b).2 ↔ a.2 < b.2 := Rat.intCast_lt_intCast
theorem wsd_cc (a b q : IP) : cc (cz a) (cz b) (cz q) = wsd a b q := by
  unfold cc wsd
  simp only [cz_le2, cz_lt2, cr_pos, cr_neg]
  by_cases h1 : a.2 ≤ q.2 ∧ q.2 < b.2 ∧ 0 < crI a b q
  · rw [if_pos h1, if_pos ⟨h1.1, by omega, by omega⟩]
  · rw [if_neg h1, if_neg (show ¬ (a.2 ≤ q.2 ∧ b.2 > q.2 ∧ crI a b q > 0) from fun h => h1 ⟨h.1, by omega, by omega⟩)]
    by_cases h2 : b.2 ≤ q.2 ∧ q.2 < a.2 ∧ crI a b q < 0
    · rw [if_pos h2, if_pos (show a.2 > q.2 ∧ b.2 ≤ q.2 ∧ crI a b q < 0 from ⟨by omega, h2.1, h2.2.2⟩)]
    · rw [if_neg h2, if_neg (show ¬ (a.2 > q.2 ∧ b.2 ≤ q.2 ∧ crI a b q < 0) from fun h => h2 ⟨h.2.1, by omega, h.2.2⟩)]
/-- between, by coordinates -/
theorem On_coord {u v x : Pt} (hc : cr u v x = 0) (h1 : (u.1 ≤ x.1 ∧ x.1 ≤ v.1) ∨ (v.1 ≤ x.1 ∧ x.1 ≤ u.1)) (h2 : (u.2 ≤ x.2 ∧ x.2 ≤ v.2) ∨ (v.2 ≤ x.2 ∧ x.2 ≤ u.2)) : On u v x := by
  rcases (by grind : u.2 < v.2 ∨ v.2 < u.2 ∨ u.2 = v.2) with g | g | g
  · exact On_ofY hc g (by grind) (by grind)
  · exact On_symm (On_ofY (by rw [cr_anti, hc]; grind) g (by grind) (by grind))
  · have x2 : x.2 = u.2 := by grind
    rcases (by grind : u.1 < v.1 ∨ v.1 < u.1 ∨ u.1 = v.1) with k | k | k
    · have hp : 0 < v.1 - u.1 := by grind
      refine ⟨(x.1 - u.1) / (v.1 - u.1), div_nn hp (by grind), div_le1 hp (by grind), Prod.ext ?_ ?_⟩ <;> simp only <;> grind
    · have hp : 0 < u.1 - v.1 := by grind
      refine ⟨(u.1 - x.1) / (u.1 - v.1), div_nn hp (by grind), div_le1 hp (by grind), Prod.ext ?_ ?_⟩ <;> simp only <;> grind
    · have : x = u := Prod.ext (by grind) x2
      rw [this]; exact On_left u v
theorem On_X {u v x : Pt} (h : On u v x) : (u.1 ≤ x.1 ∧ x.1 ≤ v.1) ∨ (v.1 ≤ x.1 ∧ x.1 ≤ u.1) := by
  obtain ⟨t, t0, t1, e⟩ := h
  by_cases g : u.1 ≤ v.1
  · left
    have p1 := Rat.mul_nonneg t0 (show 0 ≤ v.1 - u.1 by grind)
    have p2 := Rat.mul_nonneg (show 0 ≤ 1 - t by grind) (show 0 ≤ v.1 - u.1 by grind)
    rw [e]; simp only; grind
  · right
    have p1 := Rat.mul_nonneg t0 (show 0 ≤ u.1 - v.1 by grind)
    have p2 := Rat.mul_nonneg (show 0 ≤ 1 - t by grind) (show 0 ≤ u.1 - v.1 by grind)
    rw [e]; simp only; grind
theorem bet_On (a b q : IP) : BetI a b q ↔ On (cz a) (cz b) (cz q) := by
  constructor
  · rintro ⟨h1, h2, h3⟩
    refine On_coord ((cr_nil a b q).2 h1) ?_ ?_
    · simp only [cz_le1]; omega
    · simp only [cz_le2]; omega
  · intro h
    have h1 := (cr_nil a b q).1 (On_cr h)
    have h2 := On_X h
    have h3 := On_Y h
    simp only [cz_le1] at h2
    simp only [cz_le2] at h3
    exact ⟨h1, by omega, by omega⟩
/-- a point of the line of two points, by its number along it -/
theorem on_num {a b c : Pt} (h : a ≠ b) (hc : cr a b c = 0) : ∃ t : Rat, c = (a.1 + t * (b.1 - a.1), a.2 + t * (b.2 - a.2)) := by
  by_cases g : b.1 - a.1 = 0
  · have k : b.2 - a.2 ≠ 0 := fun k => h (Prod.ext (by grind) (by grind))
    refine ⟨(c.2 - a.2) / (b.2 - a.2), Prod.ext ?_ ?_⟩ <;> unfold cr at hc <;> simp only <;> grind
  · refine ⟨(c.1 - a.1) / (b.1 - a.1), Prod.ext ?_ ?_⟩ <;> unfold cr at hc <;> simp only <;> grind
theorem num_inj {a b : Pt} (h : a ≠ b) {s t : Rat} (e : ((a.1 + s * (b.1 - a.1), a.2 + s * (b.2 - a.2)) : Pt) = (a.1 + t * (b.1 - a.1), a.2 + t * (b.2 - a.2))) : s = t := by
  simp only [Prod.mk.injEq] at e
  by_cases g : b.1 - a.1 = 0
  · have k : b.2 - a.2 ≠ 0 := fun k => h (Prod.ext (by grind) (by grind))
    grind
  · grind
/-- two segments on one line that have a point in common: an end of one lies on the other -/
theorem meet_line {a b c d x : Pt} (h : a ≠ b) (hc : cr a b c = 0) (hd : cr a b d = 0) (h1 : On a b x) (h2 : On c d x) : On a b c ∨ On a b d ∨ On c d a := by
  obtain ⟨s, es⟩ := on_num h hc
  obtain ⟨t, et⟩ := on_num h hd
  obtain ⟨r, r0, r1, er⟩ := h1
  obtain ⟨m, m0, m1, em⟩ := h2
  have e : r = (1 - m) * s + m * t := by
    apply num_inj h
    rw [← er, em, es, et]
    apply Prod.ext <;> simp only <;> grind
  by_cases s1 : 0 ≤ s ∧ s ≤ 1
  · exact Or.inl ⟨s, s1.1, s1.2, es⟩
  by_cases t1 : 0 ≤ t ∧ t ≤ 1
  · exact Or.inr (Or.inl ⟨t, t1.1, t1.2, et⟩)
  right; right
  have p1 := @Rat.mul_nonneg m
  have key : ∀ {s t m : Rat}, 0 ≤ m → m ≤ 1 → s < 0 → t < 0 → (1 - m) * s + m * t < 0 := by
    intro s t m m0 m1 hs ht
    have := On_pos m0 m1 (show 0 < -s by grind) (show 0 < -t by grind)
    grind
  rcases (by grind : s < 0 ∨ 1 < s) with g | g
  · rcases (by grind : t < 0 ∨ 1 < t) with k | k
    · have := key m0 m1 g k; grind
    · have hp : 0 < t - s := by grind
      refine ⟨-s / (t - s), div_nn hp (by grind), div_le1 hp (by grind), ?_⟩
      rw [es, et]; apply Prod.ext <;> simp only <;> grind
  · rcases (by grind : t < 0 ∨ 1 < t) with k | k
    · have hp : 0 < s - t := by grind
      refine ⟨s / (s - t), div_nn hp (by grind), div_le1 hp (by grind), ?_⟩
      rw [es, et]; apply Prod.ext <;> simp only <;> grind
    · have := On_pos m0 m1 (show 0 < s - 1 by grind) (show 0 < t - 1 by grind)
      grind
theorem cr_On_comb {a b c d x : Pt} {m : Rat} (e : x = (c.1 + m * (d.1 - c.1), c.2 + m * (d.2 - c.2))) : cr a b x = (1 - m) * cr a b c + m * cr a b d := by
  rw [e]; unfold cr; simp only; grind
/-- what meets -/
def MeetR (a b c d : Pt) : Prop := On a b c ∨ On a b d ∨ On c d a ∨ On c d b ∨ (((cr a b c < 0 ∧ 0 < cr a b d) ∨ (0 < cr a b c ∧ cr a b d < 0)) ∧ ((cr c d a < 0 ∧ 0 < cr c d b) ∨ (0 < cr c d a ∧ cr c d b < 0)))
theorem half {a b c d x : Pt} (h : a ≠ b) (h1 : On a b x) (h2 : On c d x) : On a b c ∨ On a b d ∨ On c d a ∨ ((cr a b c < 0 ∧ 0 < cr a b d) ∨ (0 < cr a b c ∧ cr a b d < 0)) := by
  obtain ⟨m, m0, m1, em⟩ := h2
  have e := cr_On_comb (a := a) (b := b) em
  rw [On_cr h1] at e
  by_cases hc : cr a b c = 0
  · by_cases hd : cr a b d = 0
    · rcases meet_line h hc hd h1 ⟨m, m0, m1, em⟩ with g | g | g
      · exact Or.inl g
      · exact Or.inr (Or.inl g)
      · exact Or.inr (Or.inr (Or.inl g))
    · have hm : m = 0 := by grind
      have : x = c := by rw [em, hm]; apply Prod.ext <;> simp only <;> grind
      exact Or.inl (this ▸ h1)
  · by_cases hd : cr a b d = 0
    · have hm : m = 1 := by grind
      have : x = d := by rw [em, hm]; apply Prod.ext <;> simp only <;> grind
      exact Or.inr (Or.inl (this ▸ h1))
    · right; right; right
      rcases (by grind : cr a b c < 0 ∨ 0 < cr a b c) with g | g
      · rcases (by grind : cr a b d < 0 ∨ 0 < cr a b d) with k | k
        · have := On_pos m0 m1 (show 0 < -cr a b c by grind) (show 0 < -cr a b d by grind); grind
        · exact Or.inl ⟨g, k⟩
      · rcases (by grind : cr a b d < 0 ∨ 0 < cr a b d) with k | k
        · exact Or.inr ⟨g, k⟩
        · have := On_pos m0 m1 g k; grind
theorem meets_of {a b c d x : Pt} (h : a ≠ b) (k : c ≠ d) (h1 : On a b x) (h2 : On c d x) : MeetR a b c d := by
  rcases half h h1 h2 with g | g | g | g
  · exact Or.inl g
  · exact Or.inr (Or.inl g)
  · exact Or.inr (Or.inr (Or.inl g))
  rcases half k h2 h1 with l | l | l | l
  · exact Or.inr (Or.inr (Or.inl l))
  · exact Or.inr (Or.inr (Or.inr (Or.inl l)))
  · exact Or.inl l
  exact Or.inr (Or.inr (Or.inr (Or.inr ⟨g, l⟩)))
theorem meetI_R (a b c d : IP) : MeetI a b c d ↔ MeetR (cz a) (cz b) (cz c) (cz d) := by
  unfold MeetI MeetR DivI
  simp only [bet_On, cr_pos, cr_neg]
/-- neighbours: a common point other than the common end would fold one over the other -/
theorem fold_of {a b c x : Pt} (h1 : On a b x) (h2 : On b c x) (hx : x ≠ b) : On a b c ∨ On b c a := by
  obtain ⟨t, t0, t1, e⟩ := On_symm h1
  obtain ⟨s, s0, s1, f⟩ := h2
  have tp : t ≠ 0 := by rintro rfl; apply hx; rw [e]; apply Prod.ext <;> simp only <;> grind
  have sp : s ≠ 0 := by rintro rfl; apply hx; rw [f]; apply Prod.ext <;> simp only <;> grind
  have tp' : 0 < t := by grind
  have sp' : 0 < s := by grind
  have k1 : t * (a.1 - b.1) = s * (c.1 - b.1) := by have := congrArg Prod.fst (e.symm.trans f); simp only at this; grind
  have k2 : t * (a.2 - b.2) = s * (c.2 - b.2) := by have := congrArg Prod.snd (e.symm.trans f); simp only at this; grind
  by_cases g : t ≤ s
  · left
    refine On_symm ⟨t / s, div_nn sp' t0, div_le1 sp' g, Prod.ext ?_ ?_⟩ <;> simp only <;> grind
  · right
    refine ⟨s / t, div_nn tp' s0, div_le1 tp' (by grind), Prod.ext ?_ ?_⟩ <;> simp only <;> grind
end Geo
end
section
/- A polygon that the program finds simple is simple in the plane; its winding is the one that is counted. -/
namespace Geo
def czL (P : List IP) : List Pt := P.map cz
theorem czL_len (P : List IP) : (czL P).length = P.length := by simp [czL]
theorem es_get (L : List Pt) (e : Pt × Pt) : e ∈ es L ↔ ∃ i, i + 1 < L.length ∧ e = (L.getD i (0, 0), L.getD (i + 1) (0, 0)) := by
  induction L with
  | nil => simp [es]
  | cons a l ih =>
    cases l with
    | nil => simp [es]
    | cons b l =>
      rw [es_two, List.mem_cons, ih]
      constructor
      · rintro (h | ⟨i, hi, h⟩)
        · exact ⟨0, by simp, h⟩
        · exact ⟨i + 1, by simp at hi ⊢; omega, h⟩
      · rintro ⟨i, hi, h⟩
        cases i with
        | zero => exact Or.inl h
        | succ i => exact Or.inr ⟨i, by simp at hi ⊢; omega, h⟩
theorem pw_get (L : List Pt) (q : Pt) : pw L q = sumN (fun i => cc (L.getD i (0, 0)) (L.getD (i + 1) (0, 0)) q) (L.length - 1) := by
  induction L with
  | nil => rfl
  | cons a l ih =>
    cases l with
    | nil => rfl
    | cons b l =>
      rw [pw_two, ih]
      show _ = sumN _ (l.length + 1)
      rw [sumN_head]
      rfl
theorem closed_get (P : List IP) (hP : P ≠ []) : ∃ a l, czL P = a :: l ∧ ∀ i, i ≤ P.length → (a :: (l ++ [a])).getD i (0, 0) = cz (nth P i) := by
  cases P with
  | nil => exact absurd rfl hP
  | cons p P =>
    refine ⟨cz p, P.map cz, rfl, fun i hi => ?_⟩
    have key : ∀ j, j < (p :: P).length → (cz p :: (P.map cz ++ [cz p])).getD j (0, 0) = cz ((p :: P).getD j (0, 0)) := by
      intro j hj
      rw [← List.cons_append]
      simp only [List.getD]
      rw [List.getElem?_append_left (by simpa using hj), ← List.map_cons, List.getElem?_map, List.getElem?_eq_getElem hj]
      rfl
    unfold nth
    by_cases h : i < (p :: P).length
    · rw [Nat.mod_eq_of_lt h]; exact key i h
    · have : i = (p :: P).length := by omega
      subst this
      rw [Nat.mod_self]
      have h2 : (cz p :: (P.map cz ++ [cz p])).getD (p :: P).length (0, 0) = cz p := by
        rw [← List.cons_append]
        simp only [List.getD]
        rw [List.getElem?_append_right (by simp)]
        simp
      rw [h2]; rfl
theorem ces_get {P : List IP} (hP : P ≠ []) (e : Pt × Pt) : e ∈ ces (czL P) ↔ ∃ i, i < P.length ∧ e = (cz (nth P i), cz (nth P (i + 1))) := by
  obtain ⟨a, l, h, k⟩ := closed_get P hP
  have hl : (a :: (l ++ [a])).length = P.length + 1 := by
    have := congrArg List.length h
    rw [czL_len] at this
    simp at this ⊢; omega
  rw [h]
  show e ∈ es (a :: (l ++ [a])) ↔ _
  rw [es_get, hl]
  constructor
  · rintro ⟨i, hi, he⟩; exact ⟨i, by omega, by rw [he, k i (by omega), k (i + 1) (by omega)]⟩
  · rintro ⟨i, hi, he⟩; exact ⟨i, by omega, by rw [he, k i (by omega), k (i + 1) (by omega)]⟩
theorem cw_cz {P : List IP} (hP : P ≠ []) (q : IP) : cw (czL P) (cz q) = wndI P q := by
  obtain ⟨a, l, h, k⟩ := closed_get P hP
  have hl : (a :: (l ++ [a])).length = P.length + 1 := by
    have := congrArg List.length h
    rw [czL_len] at this
    simp at this ⊢; omega
  rw [h]
  show pw (a :: (l ++ [a])) (cz q) = _
  rw [pw_get, hl]
  unfold wndI
  exact sumN_congr (fun i hi => by rw [k i (by omega), k (i + 1) (by omega), wsd_cc])
theorem off_cz {P : List IP} (hP : P ≠ []) {q : IP} : Off (czL P) (cz q) ↔ ¬ OnI P q := by
  unfold Off OnI
  constructor
  · rintro h ⟨i, hi, hb⟩
    exact h _ ((ces_get hP _).2 ⟨i, hi, rfl⟩) ((bet_On _ _ _).1 hb)
  · intro h e he ho
    obtain ⟨i, hi, rfl⟩ := (ces_get hP e).1 he
    exact h ⟨i, hi, (bet_On _ _ _).2 ho⟩
theorem nbr {a b c : IP} (h1 : ¬ BetI a b c) (h2 : ¬ BetI b c a) {x : Pt} (hx : On (cz a) (cz b) x) (hy : On (cz b) (cz c) x) : x = cz b := by
  by_cases h : x = cz b
  · exact h
  · rcases fold_of hx hy h with g | g
    · exact absurd ((bet_On _ _ _).2 g) h1
    · exact absurd ((bet_On _ _ _).2 g) h2
theorem simp_cz {P : List IP} (h3 : 3 ≤ P.length) (h : SimpI P) : Simp (czL P) where
  len := by rw [czL_len]; exact h3
  nodup := by
    unfold List.Nodup
    rw [List.pairwise_iff_getElem]
    intro i j hi hj hij e
    rw [czL_len] at hi hj
    have cg : ∀ t (ht : t < (czL P).length) (ht2 : t < P.length), (czL P)[t] = cz P[t] := fun t ht ht2 => by simp [czL]
    rw [cg i _ hi, cg j _ hj, cz_inj] at e
    have e2 : nth P i = nth P j := by
      unfold nth
      rw [Nat.mod_eq_of_lt hi, Nat.mod_eq_of_lt hj]
      simpa [List.getD, hi, hj] using e
    obtain ⟨g1, _, _, g4⟩ := h i hi
    by_cases c1 : j = i + 1
    · rw [c1] at e2; exact g1 e2
    · by_cases c2 : i = 0 ∧ j = P.length - 1
      · obtain ⟨k1, _⟩ := h j hj
        apply k1
        rw [← e2, c2.1, c2.2, show P.length - 1 + 1 = 0 + P.length by omega, nth_per]
      · apply g4 j (by omega) hj c2
        left
        rw [← e2]
        exact ⟨by unfold crI; grind, by omega, by omega⟩
  meet := by
    have hP : P ≠ [] := by rintro rfl; simp at h3
    have key : ∀ i j, i < j → j < P.length → ∀ x, On (cz (nth P i)) (cz (nth P (i + 1))) x → On (cz (nth P j)) (cz (nth P (j + 1))) x →
        (x = cz (nth P i) ∨ x = cz (nth P (i + 1))) ∧ (x = cz (nth P j) ∨ x = cz (nth P (j + 1))) := by
      intro i j hij hj x hx hy
      obtain ⟨g1, g2, g3, g4⟩ := h i (by omega)
      obtain ⟨k1, k2, k3, _⟩ := h j hj
      by_cases c1 : j = i + 1
      · subst c1
        have := nbr g2 g3 hx hy
        exact ⟨Or.inr this, Or.inl this⟩
      · by_cases c2 : i = 0 ∧ j = P.length - 1
        · have e0 : nth P (j + 1) = nth P i := by rw [c2.1, c2.2, show P.length - 1 + 1 = 0 + P.length by omega, nth_per]
          have e1 : nth P (j + 2) = nth P (i + 1) := by rw [c2.1, c2.2, show P.length - 1 + 2 = 0 + 1 + P.length by omega, nth_per]
          rw [e0, e1] at k2 k3
          rw [e0] at hy
          have := nbr k2 k3 hy hx
          rw [e0]
          exact ⟨Or.inl this, Or.inr this⟩
        · exact absurd ((meetI_R _ _ _ _).2 (meets_of (fun e => g1 (cz_inj.1 e)) (fun e => k1 (cz_inj.1 e)) hx hy)) (g4 j (by omega) hj c2)
    intro e he f hf hne x hx hy
    obtain ⟨i, hi, rfl⟩ := (ces_get hP e).1 he
    obtain ⟨j, hj, rfl⟩ := (ces_get hP f).1 hf
    rcases Nat.lt_trichotomy i j with g | g | g
    · exact key i j g hj x hx hy
    · subst g; exact absurd rfl hne
    · have := key j i g hi x hy hx
      exact ⟨this.2, this.1⟩
/-- the winding about a point off the sides is 0 or the same number for all points, 1 or -1 -/
theorem orientI {P : List IP} (h3 : 3 ≤ P.length) (h : SimpI P) : ∃ s : Int, (s = 1 ∨ s = -1) ∧ ∀ q, ¬ OnI P q → wndI P q = 0 ∨ wndI P q = s := by
  have hP : P ≠ [] := by rintro rfl; simp at h3
  obtain ⟨s, hs, k⟩ := orient _ _ rfl (simp_cz h3 h)
  exact ⟨s, hs, fun q hq => by rw [← cw_cz hP]; exact k _ ((off_cz hP).2 hq)⟩
end Geo
end
section
/- The reference's position of a point: by parity. -/
namespace Pl
open Go Geo Pm
def parI (P : List IP) (q : IP) (i : Nat) : Bool := decide (sumN (fun j => wsd (nth P j) (nth P (j + 1)) q) i % 2 = 1)
theorem parI_flip {P : List IP} {q : IP} {i : Nat} (h : wsd (nth P i) (nth P (i + 1)) q = 1 ∨ wsd (nth P i) (nth P (i + 1)) q = -1) : parI P q (i + 1) = !parI P q i := by
  unfold parI
  have hs : sumN (fun j => wsd (nth P j) (nth P (j + 1)) q) (i + 1) = sumN (fun j => wsd (nth P j) (nth P (j + 1)) q) i + wsd (nth P i) (nth P (i + 1)) q := rfl
  rw [hs, ← decide_not]
  exact decide_eq_decide.2 (by omega)
theorem parI_same {P : List IP} {q : IP} {i : Nat} (h : wsd (nth P i) (nth P (i + 1)) q = 0) : parI P q (i + 1) = parI P q i := by
  unfold parI
  have hs : sumN (fun j => wsd (nth P j) (nth P (j + 1)) q) (i + 1) = sumN (fun j => wsd (nth P j) (nth P (j + 1)) q) i + wsd (nth P i) (nth P (i + 1)) q := rfl
  rw [hs, h, Int.add_zero]
open Classical in
theorem place_lp {P : List IP} (hl : P.length ≤ 1000) (hb : InsI P) (h3 : 3 ≤ P.length) (hs : SimpI P) {q : IP} (hq : insP q) : ∀ (m i : Nat), i + m = P.length → (∀ j, j < i → ¬ BetI (nth P j) (nth P (j + 1)) q) →
    garmentref11_Place_lp1 CG P q P (parI P q i) (i : Int) q = some [.val tI (if OnI P q then 0 else if wndI P q = 0 then -1 else 1)]
  | 0, i, h, hno => by
    obtain rfl : i = P.length := by omega
    refine garmentref11_Place_lp1_st _ _ _ _ _ _ (neg (ige (by omega)) ?_)
    have hon : ¬ OnI P q := fun ⟨j, h1, h2⟩ => hno j h1 h2
    rw [if_neg hon]
    obtain ⟨s, hs1, hs2⟩ := orientI h3 hs
    have hw := hs2 q hon
    have e : parI P q P.length = decide (wndI P q % 2 = 1) := rfl
    rw [e]
    by_cases h0 : wndI P q = 0
    · rw [if_pos h0]; exact neg (by simp [h0]) rfl
    · rw [if_neg h0]; exact pos (dt (by omega)) rfl
  | m + 1, i, h, hno => by
    have hi : i < P.length := by omega
    have hP : P ≠ [] := by rintro rfl; cases hi
    have hm := Nat.mod_lt (i + 1) (show 0 < P.length by omega)
    refine garmentref11_Place_lp1_st _ _ _ _ _ _ ?_
    rw [wrS (by omega), tmod_nat]
    have e1 : P.getD ((i + 1) % P.length) (0, 0) = nth P (i + 1) := rfl
    have e2 := nth_getD hi
    simp only [Int.toNat_natCast, e1, e2]
    refine pos (ilt hi) (pos (ixn hi) (pos (by omega) (pos (ixn hm) (bnd (between_ok (insP_of hb hP _) (insP_of hb hP _) hq) ?_))))
    by_cases hbt : BetI (nth P i) (nth P (i + 1)) q
    · refine pos (dt hbt) ?_
      rw [if_pos (show OnI P q from ⟨i, hi, hbt⟩)]
    refine neg (df hbt) ?_
    have hx := cross_ok (a := nth P i) (b := nth P (i + 1)) (c := q) (insP_of hb hP _) (insP_of hb hP _) hq
    have ih := place_lp hl hb h3 hs hq m (i + 1) (by omega) (fun j hj => by
      by_cases e : j = i
      · rw [e]; exact hbt
      · exact hno j (by omega))
    generalize (if OnI P q then (0 : Int) else if wndI P q = 0 then -1 else 1) = res at ih ⊢
    have up : wsd (nth P i) (nth P (i + 1)) q = 1 → garmentref11_Place_lp1 CG P q P (!parI P q i) ((i + 1 : Nat) : Int) q = some [.val tI res] := fun e => by rw [← parI_flip (Or.inl e)]; exact ih
    have dn : wsd (nth P i) (nth P (i + 1)) q = -1 → garmentref11_Place_lp1 CG P q P (!parI P q i) ((i + 1 : Nat) : Int) q = some [.val tI res] := fun e => by rw [← parI_flip (Or.inr e)]; exact ih
    have eq : wsd (nth P i) (nth P (i + 1)) q = 0 → garmentref11_Place_lp1 CG P q P (parI P q i) ((i + 1 : Nat) : Int) q = some [.val tI res] := fun e => by rw [← parI_same e]; exact ih
    simp only [hx, Option.bind_some, decide_eq_true_eq]
    (repeat' split) <;> first | (exact up (by unfold wsd; rw [if_pos (by omega)])) | (exact dn (by unfold wsd; rw [if_neg (by omega), if_pos (by omega)])) | (exact eq (by unfold wsd; rw [if_neg (by omega), if_neg (by omega)]))
theorem place_ok {P : List IP} (h : chk P = 0) (q : IP) : callT CG [.v tI] 91 [.val (.sl t0) P, .val t0 q] = some (posI P q) := by
  obtain ⟨h3, h40, hb, _, hs⟩ := chk_in h
  refine callT_of (garmentref11_Place_st P q (r := [.val tI (posI P q)]) ?_) rfl
  refine bnd (within11_ok q) ?_
  unfold posI
  by_cases hq : insI q.1 ∧ insI q.2
  · refine neg (by simp [hq]) ?_
    rw [if_pos hq]
    exact place_lp (by omega) hb h3 hs hq P.length 0 (by omega) (fun j hj => by omega)
  · refine pos (by rw [decide_eq_false hq]; rfl) ?_
    rw [if_neg hq]
theorem rwhere_ok (P : List IP) (q : IP) : callT CG [.v tI, .v tI] 89 [.val (.sl t0) P, .val t0 q] = some (whereI P q) := by
  refine callT_of (garmentref11_Where_st P q (r := [.val tI (whereI P q).1, .val tI (whereI P q).2]) ?_) rfl
  refine bnd (rcheck_ok P) ?_
  unfold whereI
  by_cases h : chk P = 0
  · refine neg (by simp [h]) (bnd (place_ok h q) ?_)
    rw [if_pos h]
  · refine pos (by simp [h]) ?_; rw [if_neg h]
end Pl
end
section
/- The test of a polygon by computing; the examples are run with it. -/
namespace Pl
open Go Geo Pm
def betB (a b q : IP) : Bool := crI a b q == 0 && (decide (min a.1 b.1 ≤ q.1) && decide (q.1 ≤ max a.1 b.1)) && (decide (min a.2 b.2 ≤ q.2) && decide (q.2 ≤ max a.2 b.2))
theorem betB_iff (a b q : IP) : betB a b q = true ↔ BetI a b q := by unfold betB BetI; simp only [Bool.and_eq_true, beq_iff_eq, decide_eq_true_eq, and_assoc]
def divB (a b p q : IP) : Bool := (decide (crI a b p < 0) && decide (0 < crI a b q)) || (decide (0 < crI a b p) && decide (crI a b q < 0))
theorem divB_iff (a b p q : IP) : divB a b p q = true ↔ DivI a b p q := by unfold divB DivI; simp only [Bool.or_eq_true, Bool.and_eq_true, decide_eq_true_eq]
def meetB (a b c d : IP) : Bool := betB a b c || (betB a b d || (betB c d a || (betB c d b || (divB a b c d && divB c d a b))))
theorem meetB_iff (a b c d : IP) : meetB a b c d = true ↔ MeetI a b c d := by unfold meetB MeetI; simp only [Bool.or_eq_true, Bool.and_eq_true, betB_iff, divB_iff]
def simpB (P : List IP) : Bool := (List.range P.length).all fun i => !(decide (nth P i = nth P (i + 1))) && (!betB (nth P i) (nth P (i + 1)) (nth P (i + 2)) && (!betB (nth P (i + 1)) (nth P (i + 2)) (nth P i) &&
  (List.range P.length).all fun k => !Nat.ble (i + 2) k || ((Nat.beq i 0 && Nat.beq k (P.length - 1)) || !meetB (nth P i) (nth P (i + 1)) (nth P k) (nth P (k + 1)))))
theorem simpB_iff (P : List IP) : simpB P = true ↔ SimpI P := by
  unfold simpB SimpI
  simp only [List.all_eq_true, List.mem_range, Bool.and_eq_true, Bool.not_eq_true', decide_eq_false_iff_not, ← Bool.not_eq_true, betB_iff, Bool.or_eq_true, meetB_iff, Nat.beq_eq, Nat.ble_eq]
  refine forall_congr' fun i => forall_congr' fun hi => ?_
  refine and_congr (by simp) (and_congr Iff.rfl (and_congr Iff.rfl ?_))
  constructor
  · intro h k h1 h2 h3
    rcases h k h2 with h4 | h4 | h4
    · exact absurd h1 h4
    · exact absurd h4 h3
    · exact h4
  · intro h k h2
    by_cases h1 : i + 2 ≤ k
    · by_cases h3 : i = 0 ∧ k = P.length - 1
      · exact Or.inr (Or.inl h3)
      · exact Or.inr (Or.inr (h k h1 h2 h3))
    · exact Or.inl h1
def insB (s : IP) : Bool := (decide (-1048576 ≤ s.1) && decide (s.1 ≤ 1048576)) && (decide (-1048576 ≤ s.2) && decide (s.2 ≤ 1048576))
theorem insB_iff (s : IP) : insB s = true ↔ insI s.1 ∧ insI s.2 := by unfold insB insI; simp only [Bool.and_eq_true, decide_eq_true_eq]
def chkB (P : List IP) : Int := cond (Nat.blt 40 P.length) 5 (cond (Nat.blt P.length 3) 11 (cond (P.all insB) (cond (simpB P) 0 11) 3))
theorem chkB_eq (P : List IP) : chkB P = chk P := by
  unfold chkB chk
  by_cases h1 : 40 < P.length
  · rw [if_pos h1, show Nat.blt 40 P.length = true from of_eq_true (by rw [Nat.blt_eq]; simp [h1])]; rfl
  rw [if_neg h1, show Nat.blt 40 P.length = false from Bool.eq_false_iff.2 (fun h => h1 (Nat.blt_eq ▸ h))]
  by_cases h2 : P.length < 3
  · rw [if_pos h2, show Nat.blt P.length 3 = true from of_eq_true (by rw [Nat.blt_eq]; simp [h2])]; rfl
  rw [if_neg h2, show Nat.blt P.length 3 = false from Bool.eq_false_iff.2 (fun h => h2 (Nat.blt_eq ▸ h))]
  have hin : P.all insB = true ↔ InsI P := by
    unfold InsI
    rw [List.all_eq_true]
    exact forall_congr' fun s => forall_congr' fun _ => insB_iff s
  by_cases h3 : InsI P
  · rw [if_neg (fun h => h h3), hin.2 h3]
    by_cases h4 : SimpI P
    · rw [if_pos h4, (simpB_iff P).2 h4]; rfl
    · rw [if_neg h4, show simpB P = false from Bool.eq_false_iff.2 (fun h => h4 ((simpB_iff P).1 h))]; rfl
  · rw [if_pos h3, show P.all insB = false from Bool.eq_false_iff.2 (fun h => h3 (hin.1 h))]; rfl
/-- calls that are known: the test of a polygon -/
def O11 : CallF := fun f as => cond (Nat.beq f 13 || Nat.beq f 67) (match as with
  | [.val t x] => match castT t (.sl t0) x with
    | some P => some [.val tI (chkB P)]
    | none => none
  | _ => none) none
theorem O11_less : Less O11 (limC G) := by
  intro f as r h
  unfold O11 at h
  cases hb : (Nat.beq f 13 || Nat.beq f 67) with
  | false => rw [hb] at h; cases h
  | true =>
    rw [hb] at h
    simp only [cond_true] at h
    split at h
    · rename_i t x
      split at h
      · rename_i P hc
        obtain ⟨e, hx⟩ := castT_some hc
        subst e
        subst hx
        injection h with h
        subst h
        rw [chkB_eq]
        rw [Bool.or_eq_true] at hb
        rcases hb with hb | hb
        · rw [Nat.eq_of_beq_eq_true hb]; exact check_cg _
        · rw [Nat.eq_of_beq_eq_true hb]; exact rcheck_cg _
      · cases h
    · cases h
theorem run11 {f k : Nat} {as : List D} {r : R} (h : evO G O11 k f as = some r) : CG f as = some r := evO_lim O11_less k f as r h
end Pl
end
section
/- The examples of chapter 11, by running the plain reading. -/
namespace Pl
open Go Geo Pm
theorem awake11_ok : callT CG [.v .bool] 82 [] = some true := callT_of (run11 (k := 60) (r := [.val .bool true]) (by kernel_rfl)) rfl
end Pl
end
section
/- Chapter 11: the bound of the statements. -/
namespace Pl
open Go Geo Pm
theorem few_ok (P : List IP) : callT CG [.v .bool] 81 [.val (.sl t0) P] = some (decide (P.length ≤ 50)) :=
  callT_of (garmentlaw11_few_st P (r := [.val .bool (decide (P.length ≤ 50))]) (by rw [show decide ((P.length : Int) ≤ (50 : Int)) = decide (P.length ≤ 50) from decide_eq_decide.2 (by omega)])) rfl
end Pl
end
section
/- PolygonWheres: the position of a point is that of the reference, for every list and point. -/
namespace Pl
open Go Geo Pm
theorem PolygonWheres_pure (P : List IP) (q : IP) (w0 : wf (.sl t0) P) (w1 : wf t0 q) : CG 90 [.val (.sl t0) P, .val t0 q] = some [.val .bool true] := by
  refine garmentlaw11_PolygonWheres_st P q (bnd (few_ok P) ?_)
  by_cases h : P.length ≤ 50
  · exact neg (by simp [h]) (bnd (where_ok P q) (bnd (rwhere_ok P q) (pos (by simp) (pos (by simp) (bnd awake11_ok rfl)))))
  · exact pos (by simp [h]) (bnd awake11_ok rfl)
end Pl
end
