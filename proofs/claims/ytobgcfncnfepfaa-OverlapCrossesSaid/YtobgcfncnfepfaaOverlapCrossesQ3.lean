/- Parts of the proof of OverlapCrosses, joined: G4, G5, G6, G7, G8, G9, G10, G11, G12, G13, R11b, C11d, G14, G15, G16, G17, N11, K11, C13a, R11d, C13b, C15a. -/
import Derived.Test.YtobgcfncnfepfaaOverlapCrossesQ2
set_option linter.unusedVariables false
set_option linter.unusedSimpArgs false
section
/- Triangles in affine coordinates. -/
namespace Geo
/-- the affine coordinate that is 0 at a and v, and 1 at b -/
def bc (a v b t : Pt) : Rat := cr a v t / cr a v b
theorem bc_mul {a v b : Pt} (h : cr a v b ≠ 0) (t : Pt) : bc a v b t * cr a v b = cr a v t := by unfold bc; grind
theorem cr_rot2 (a v b : Pt) : cr v b a = cr a v b := by unfold cr; grind
theorem bc_a (a v b : Pt) : bc a v b a = 0 := by unfold bc; rw [cr_self1]; grind
theorem bc_v (a v b : Pt) : bc a v b v = 0 := by unfold bc; rw [cr_self2]; grind
theorem bc_b {a v b : Pt} (h : cr a v b ≠ 0) : bc a v b b = 1 := by unfold bc; grind
theorem mul_cancel {x y d : Rat} (h : d ≠ 0) (e : x * d = y * d) : x = y := by grind
theorem bc_sum {a v b : Pt} (h : cr a v b ≠ 0) (t : Pt) : bc v b a t + bc b a v t + bc a v b t = 1 := by
  have h1 := bc_mul h t
  have h2 := bc_mul (a := v) (v := b) (b := a) (by rw [cr_rot2]; exact h) t
  have h3 := bc_mul (a := b) (v := a) (b := v) (by rw [← cr_rot2]; exact h) t
  rw [cr_rot2] at h2
  rw [← cr_rot2] at h3
  apply mul_cancel h
  have : cr v b t + cr b a t + cr a v t = cr a v b := by unfold cr; grind
  grind
theorem bc_rec {a v b : Pt} (h : cr a v b ≠ 0) (t : Pt) :
    t = (bc v b a t * a.1 + bc b a v t * v.1 + bc a v b t * b.1, bc v b a t * a.2 + bc b a v t * v.2 + bc a v b t * b.2) := by
  have h1 := bc_mul h t
  have h2 := bc_mul (a := v) (v := b) (b := a) (by rw [cr_rot2]; exact h) t
  have h3 := bc_mul (a := b) (v := a) (b := v) (by rw [← cr_rot2]; exact h) t
  rw [cr_rot2] at h2
  rw [← cr_rot2] at h3
  obtain ⟨t1, t2⟩ := t
  apply Prod.ext
  · apply mul_cancel h
    have : cr v b (t1, t2) * a.1 + cr b a (t1, t2) * v.1 + cr a v (t1, t2) * b.1 = t1 * cr a v b := by unfold cr; grind
    simp only at *
    grind
  · apply mul_cancel h
    have : cr v b (t1, t2) * a.2 + cr b a (t1, t2) * v.2 + cr a v (t1, t2) * b.2 = t2 * cr a v b := by unfold cr; grind
    simp only at *
    grind
theorem bc_aff (a v b : Pt) {u w x : Pt} {s : Rat} (h : x = (u.1 + s * (w.1 - u.1), u.2 + s * (w.2 - u.2))) :
    bc a v b x = (1 - s) * bc a v b u + s * bc a v b w := by
  unfold bc
  rw [cr_On a v h]
  grind
/-- in the closed triangle -/
def InT (a v b t : Pt) : Prop := 0 ≤ bc v b a t ∧ 0 ≤ bc b a v t ∧ 0 ≤ bc a v b t
theorem On_sub {u w x y : Pt} (h : On u w x) (h2 : On x w y) : On u w y := by
  obtain ⟨s, s0, s1, rfl⟩ := h
  obtain ⟨t, t0, t1, rfl⟩ := h2
  have p1 := Rat.mul_nonneg t0 (show 0 ≤ 1 - s by grind)
  have p2 := Rat.mul_nonneg (show 0 ≤ 1 - t by grind) (show 0 ≤ 1 - s by grind)
  refine ⟨s + t * (1 - s), by grind, by grind, ?_⟩
  apply Prod.ext <;> simp only <;> grind
theorem On_sub' {u w x y : Pt} (h : On u w x) (h2 : On x u y) : On u w y :=
  On_symm (On_sub (On_symm h) h2)
/-- a point of a side -/
theorem On_side {a v b : Pt} (h : cr a v b ≠ 0) {t : Pt} (h0 : bc a v b t = 0) (h1 : 0 ≤ bc v b a t) (h2 : 0 ≤ bc b a v t) : On a v t := by
  have s := bc_sum h t
  have r := bc_rec h t
  refine ⟨bc b a v t, h2, by grind, ?_⟩
  have e : bc v b a t = 1 - bc b a v t := by grind
  rw [h0, e] at r
  rw [r]
  apply Prod.ext <;> simp only <;> grind
theorem exit {a v b : Pt} (_h : cr a v b ≠ 0) {y u : Pt} (ya : 0 < bc v b a y) (ym : 0 ≤ bc b a v y) (yb : 0 < bc a v b y)
    (um : 0 < bc b a v u) (hu : ¬ InT a v b u) :
    ∃ x, On y u x ∧ 0 < bc b a v x ∧ ((bc v b a x = 0 ∧ 0 ≤ bc a v b x) ∨ (bc a v b x = 0 ∧ 0 ≤ bc v b a x)) := by
  have aff : ∀ s : Rat, ∃ x : Pt, x = (y.1 + s * (u.1 - y.1), y.2 + s * (u.2 - y.2)) := fun s => ⟨_, rfl⟩
  -- leave by the side where bc a v b = 0
  have out : ∀ α β : Rat, ∀ A B : Rat, 0 < α → 0 < β → B < 0 → 0 ≤ α * (-B) + β * A →
      ∃ s : Rat, 0 < s ∧ s ≤ 1 ∧ (1 - s) * β + s * B = 0 ∧ 0 ≤ (1 - s) * α + s * A := by
    intro α β A B hα hβ hB hAB
    have hd : 0 < β - B := by grind
    refine ⟨β / (β - B), div_pos hd hβ, div_le1 hd (by grind), by grind, ?_⟩
    have := div_nn hd hAB
    have e : (1 - β / (β - B)) * α + β / (β - B) * A = (α * (-B) + β * A) / (β - B) := by grind
    rw [e]; exact this
  have fin : ∀ s : Rat, 0 < s → s ≤ 1 → 0 < (1 - s) * bc b a v y + s * bc b a v u := by
    intro s s0 s1
    have h1 := Rat.mul_nonneg (show 0 ≤ 1 - s by grind) ym
    have h2 := Rat.mul_pos s0 um
    grind
  by_cases hb : bc a v b u < 0
  · by_cases hab : 0 ≤ bc v b a y * (- bc a v b u) + bc a v b y * bc v b a u
    · obtain ⟨s, s0, s1, e1, e2⟩ := out _ _ _ _ ya yb hb hab
      obtain ⟨x, hx⟩ := aff s
      have h1 := bc_aff a v b hx
      have h2 := bc_aff b a v hx
      have h3 := bc_aff v b a hx
      have := fin s s0 s1
      exact ⟨x, ⟨s, by grind, s1, hx⟩, by grind, Or.inr ⟨by grind, by grind⟩⟩
    · have ha : bc v b a u < 0 := by
        have := Rat.mul_pos ya (show 0 < - bc a v b u by grind)
        by_cases h0 : bc v b a u < 0
        · exact h0
        · have := Rat.mul_nonneg (show 0 ≤ bc a v b y by grind) (show 0 ≤ bc v b a u by grind)
          grind
      obtain ⟨s, s0, s1, e1, e2⟩ := out _ _ (bc a v b u) _ yb ya ha (by grind)
      obtain ⟨x, hx⟩ := aff s
      have h1 := bc_aff a v b hx
      have h2 := bc_aff b a v hx
      have h3 := bc_aff v b a hx
      have := fin s s0 s1
      exact ⟨x, ⟨s, by grind, s1, hx⟩, by grind, Or.inl ⟨by grind, by grind⟩⟩
  · have ha : bc v b a u < 0 := by
      by_cases h0 : bc v b a u < 0
      · exact h0
      · exact absurd ⟨by grind, by grind, by grind⟩ hu
    have := Rat.mul_pos yb (show 0 < - bc v b a u by grind)
    have := Rat.mul_nonneg (show 0 ≤ bc v b a y by grind) (show 0 ≤ bc a v b u by grind)
    obtain ⟨s, s0, s1, e1, e2⟩ := out _ _ (bc a v b u) _ yb ya ha (by grind)
    obtain ⟨x, hx⟩ := aff s
    have h1 := bc_aff a v b hx
    have h2 := bc_aff b a v hx
    have h3 := bc_aff v b a hx
    have := fin s s0 s1
    exact ⟨x, ⟨s, by grind, s1, hx⟩, by grind, Or.inl ⟨by grind, by grind⟩⟩
/-- an edge that comes into a triangle at v, but leaves neither by the sides at v nor ends above a level, stays below the level -/
theorem cap {a v b : Pt} (h : cr a v b ≠ 0) {u w : Pt} {κ : Rat} (k0 : 0 ≤ κ)
    (h1 : ∀ x, On u w x → On a v x → x = a) (h2 : ∀ x, On u w x → On v b x → x = b)
    (hu : InT a v b u → bc b a v u ≤ κ) {y : Pt} (hy : On u w y)
    (ya : 0 < bc v b a y) (ym : 0 ≤ bc b a v y) (yb : 0 < bc a v b y) : bc b a v u ≤ κ := by
  rcases Rat.le_total (a := bc b a v u) (b := κ) with hle | hle
  · exact hle
  · by_cases he : bc b a v u = κ
    · grind
    · have hlt : κ < bc b a v u := by grind
      have hn : ¬ InT a v b u := fun hi => by have := hu hi; grind
      have ha0 := bc_v b a v
      have hb0 := bc_a b a v
      obtain ⟨x, hx, hm, h3 | h3⟩ := exit h ya ym yb (by grind) hn
      · have hr : cr v b a ≠ 0 := by rw [cr_rot2]; exact h
        have := h2 x (On_sub' hy hx) (On_side hr h3.1 (by grind) (by grind))
        rw [this] at hm; grind
      · have := h1 x (On_sub' hy hx) (On_side h h3.1 (by grind) (by grind))
        rw [this] at hm; grind
theorem between_le {A B s κ : Rat} (h0 : 0 ≤ s) (h1 : s ≤ 1) (ha : A ≤ κ) (hb : B ≤ κ) : (1 - s) * A + s * B ≤ κ := by
  have p1 := Rat.mul_nonneg h0 (show 0 ≤ κ - B by grind)
  have p2 := Rat.mul_nonneg (show 0 ≤ 1 - s by grind) (show 0 ≤ κ - A by grind)
  grind
theorem cap2 {a v b : Pt} (h : cr a v b ≠ 0) {u w : Pt} {κ : Rat} (k0 : 0 ≤ κ)
    (h1 : ∀ x, On u w x → On a v x → x = a) (h2 : ∀ x, On u w x → On v b x → x = b)
    (hu : InT a v b u → bc b a v u ≤ κ) (hw : InT a v b w → bc b a v w ≤ κ) {y : Pt} (hy : On u w y)
    (ya : 0 < bc v b a y) (ym : 0 ≤ bc b a v y) (yb : 0 < bc a v b y) : bc b a v y ≤ κ := by
  have c1 := cap h k0 h1 h2 hu hy ya ym yb
  have c2 := cap h k0 (fun x a b => h1 x (On_symm a) b) (fun x a b => h2 x (On_symm a) b) hw (On_symm hy) ya ym yb
  obtain ⟨s, s0, s1, e⟩ := hy
  rw [bc_aff b a v e]
  exact between_le s0 s1 c1 c2
end Geo
end
section
/- Ears and diagonals. -/
namespace Geo
theorem tri1 {oa ov ob A V B : Rat} (hs : 0 < oa + ov + ob) (hz : oa * A + ov * V + ob * B = 0) (hA : 0 < A) (hV : V ≤ 0) (hB : B ≤ 0)
    (hn : ¬ (0 ≤ oa ∧ 0 ≤ ov ∧ 0 ≤ ob)) : 0 < ov ↔ ob < 0 := by
  constructor
  · intro h
    by_cases hb : ob < 0
    · exact hb
    · have p1 := Rat.mul_pos (show 0 < - oa by grind) hA
      have p2 := Rat.mul_nonneg (show 0 ≤ ov by grind) (show 0 ≤ - V by grind)
      have p3 := Rat.mul_nonneg (show 0 ≤ ob by grind) (show 0 ≤ - B by grind)
      grind
  · intro h
    by_cases hb : 0 < ov
    · exact hb
    · have p1 := Rat.mul_pos (show 0 < oa by grind) hA
      have p2 := Rat.mul_nonneg (show 0 ≤ - ov by grind) (show 0 ≤ - V by grind)
      have p3 := Rat.mul_nonneg (show 0 ≤ - ob by grind) (show 0 ≤ - B by grind)
      grind
theorem tri2 {oa ov ob A V B : Rat} (hs : 0 < oa + ov + ob) (hz : oa * A + ov * V + ob * B = 0) (hA : A ≤ 0) (hV : 0 < V) (hB : 0 < B)
    (hn : ¬ (0 ≤ oa ∧ 0 ≤ ov ∧ 0 ≤ ob)) : 0 < ob ↔ ov < 0 := by
  constructor
  · intro h
    by_cases hb : ov < 0
    · exact hb
    · have p1 := Rat.mul_nonneg (show 0 ≤ - oa by grind) (show 0 ≤ - A by grind)
      have p2 := Rat.mul_nonneg (show 0 ≤ ov by grind) (show 0 ≤ V by grind)
      have p3 := Rat.mul_pos h hB
      grind
  · intro h
    by_cases hb : 0 < ob
    · exact hb
    · have p1 := Rat.mul_nonneg (show 0 ≤ oa by grind) (show 0 ≤ - A by grind)
      have p2 := Rat.mul_pos (show 0 < - ov by grind) hV
      have p3 := Rat.mul_nonneg (show 0 ≤ - ob by grind) (show 0 ≤ B by grind)
      grind
theorem tri_id (a v b q : Pt) : cr v b q + cr b a q + cr a v q = cr a v b ∧
    cr v b q * (a.2 - q.2) + cr b a q * (v.2 - q.2) + cr a v q * (b.2 - q.2) = 0 := by
  unfold cr; constructor <;> grind
theorem triOut0 {a v b q : Pt} (h : 0 < cr a v b) (hn : ¬ (0 ≤ cr v b q ∧ 0 ≤ cr b a q ∧ 0 ≤ cr a v q)) : cw [a, v, b] q = 0 := by
  obtain ⟨i1, i2⟩ := tri_id a v b q
  have hs : 0 < cr v b q + cr b a q + cr a v q := by grind
  show cc a v q + (cc v b q + (cc b a q + 0)) = 0
  generalize e1 : cr v b q = oa at *
  generalize e2 : cr b a q = ov at *
  generalize e3 : cr a v q = ob at *
  have q1 := @tri1 oa ov ob (a.2 - q.2) (v.2 - q.2) (b.2 - q.2) hs i2
  have q2 := @tri2 oa ov ob (a.2 - q.2) (v.2 - q.2) (b.2 - q.2) hs i2
  have q3 := @tri1 ov ob oa (v.2 - q.2) (b.2 - q.2) (a.2 - q.2) (by grind) (by grind)
  have q4 := @tri2 ov ob oa (v.2 - q.2) (b.2 - q.2) (a.2 - q.2) (by grind) (by grind)
  have q5 := @tri1 ob oa ov (b.2 - q.2) (a.2 - q.2) (v.2 - q.2) (by grind) (by grind)
  have q6 := @tri2 ob oa ov (b.2 - q.2) (a.2 - q.2) (v.2 - q.2) (by grind) (by grind)
  unfold cc
  rw [e1, e2, e3]
  by_cases ha : a.2 ≤ q.2 <;> by_cases hv : v.2 ≤ q.2 <;> by_cases hb : b.2 ≤ q.2
  · grind
  · have := q5 (by grind) (by grind) (by grind) (by grind); grind
  · have := q3 (by grind) (by grind) (by grind) (by grind); grind
  · have := q2 (by grind) (by grind) (by grind) (by grind); grind
  · have := q1 (by grind) (by grind) (by grind) (by grind); grind
  · have := q4 (by grind) (by grind) (by grind) (by grind); grind
  · have := q6 (by grind) (by grind) (by grind) (by grind); grind
  · grind
theorem triIn0 {a v b q : Pt} (h1 : 0 < cr v b q) (h2 : 0 < cr b a q) (h3 : 0 < cr a v q) : cw [a, v, b] q = 1 := by
  obtain ⟨i1, i2⟩ := tri_id a v b q
  show cc a v q + (cc v b q + (cc b a q + 0)) = 1
  unfold cc
  by_cases ha : a.2 ≤ q.2 <;> by_cases hv : v.2 ≤ q.2 <;> by_cases hb : b.2 ≤ q.2
  · exfalso
    have p1 := Rat.mul_nonneg (show 0 ≤ cr v b q by grind) (show 0 ≤ - (a.2 - q.2) by grind)
    have p2 := Rat.mul_nonneg (show 0 ≤ cr b a q by grind) (show 0 ≤ - (v.2 - q.2) by grind)
    have p3 := Rat.mul_nonneg (show 0 ≤ cr a v q by grind) (show 0 ≤ - (b.2 - q.2) by grind)
    have z1 : cr v b q * (a.2 - q.2) = 0 := by grind
    have z2 : cr b a q * (v.2 - q.2) = 0 := by grind
    have y1 : a.2 - q.2 = 0 := by grind
    have y2 : v.2 - q.2 = 0 := by grind
    have : cr a v q = 0 := by unfold cr; rw [show v.2 - a.2 = 0 by grind, show q.2 - a.2 = 0 by grind]; grind
    grind
  · grind
  · grind
  · grind
  · grind
  · grind
  · grind
  · exfalso
    have p1 := Rat.mul_pos h1 (show 0 < (a.2 - q.2) by grind)
    have p2 := Rat.mul_pos h2 (show 0 < (v.2 - q.2) by grind)
    have p3 := Rat.mul_pos h3 (show 0 < (b.2 - q.2) by grind)
    grind
theorem bc_flip (a v b t : Pt) : bc v a b t = bc a v b t := by
  unfold bc; rw [cr_anti a v t, cr_anti a v b]; grind
theorem InT_flip {a v b t : Pt} : InT b v a t ↔ InT a v b t := by
  unfold InT
  rw [bc_flip a v b t, bc_flip b a v t, bc_flip v b a t]
  grind
theorem bc_pos {a v b t : Pt} (h : 0 < cr a v b) : (0 < bc a v b t ↔ 0 < cr a v t) ∧ (0 ≤ bc a v b t ↔ 0 ≤ cr a v t) := by
  have e := bc_mul (a := a) (v := v) (b := b) (by grind) t
  constructor
  · rw [← e, show bc a v b t * cr a v b = cr a v b * bc a v b t by grind, mul_pos_iff h]
  · constructor
    · intro h1; rw [← e]; exact Rat.mul_nonneg h1 (by grind)
    · intro h1; exact div_nn h h1
/-- the sign of the turn of a triangle -/
def sg (d : Rat) : Int := if 0 < d then 1 else if d < 0 then -1 else 0
theorem triOut {a v b q : Pt} (h : cr a v b ≠ 0) (hn : ¬ InT a v b q) : cw [a, v, b] q = 0 := by
  have main : ∀ {a v b : Pt}, 0 < cr a v b → ¬ InT a v b q → cw [a, v, b] q = 0 := by
    intro a v b h hn
    apply triOut0 h
    intro h1
    apply hn
    refine ⟨(bc_pos (by rw [cr_rot2]; exact h)).2.2 h1.1, (bc_pos (by rw [← cr_rot2]; exact h)).2.2 h1.2.1, (bc_pos h).2.2 h1.2.2⟩
  by_cases hp : 0 < cr a v b
  · exact main hp hn
  · have h2 : 0 < cr b v a := by
      have : cr b v a = - cr a v b := by unfold cr; grind
      grind
    have := main h2 (fun x => hn (InT_flip.1 x))
    have e := cw_rev [a, v, b] q
    simp only [List.reverse_cons, List.reverse_nil, List.nil_append, List.cons_append] at e
    omega
theorem triIn {a v b q : Pt} (h : cr a v b ≠ 0) (h1 : 0 < bc v b a q) (h2 : 0 < bc b a v q) (h3 : 0 < bc a v b q) :
    cw [a, v, b] q = sg (cr a v b) := by
  have main : ∀ {a v b : Pt}, 0 < cr a v b → 0 < bc v b a q → 0 < bc b a v q → 0 < bc a v b q → cw [a, v, b] q = 1 := by
    intro a v b h h1 h2 h3
    exact triIn0 ((bc_pos (by rw [cr_rot2]; exact h)).1.1 h1) ((bc_pos (by rw [← cr_rot2]; exact h)).1.1 h2) ((bc_pos h).1.1 h3)
  by_cases hp : 0 < cr a v b
  · rw [main hp h1 h2 h3]; simp [sg, hp]
  · have h4 : 0 < cr b v a := by
      have : cr b v a = - cr a v b := by unfold cr; grind
      grind
    have := main h4 (by rw [bc_flip a v b]; exact h3) (by rw [bc_flip b a v]; exact h2) (by rw [bc_flip v b a]; exact h1)
    have e := cw_rev [a, v, b] q
    simp only [List.reverse_cons, List.reverse_nil, List.nil_append, List.cons_append] at e
    have : sg (cr a v b) = -1 := by unfold sg; grind
    omega
/-! a polygon seen from one of its vertices -/
theorem ces_cons {v a b : Pt} {L M N : List Pt} (hb : L = b :: M) (ha : L = N ++ [a]) (e : Pt × Pt) :
    e ∈ ces (v :: L) ↔ e = (v, b) ∨ e ∈ es L ∨ e = (a, v) := by
  have h1 : ces (v :: L) = (v, b) :: es (L ++ [v]) := by
    rw [hb]; rfl
  rw [h1, ha, es_snoc, ← ha]
  simp [or_comm, or_assoc, or_left_comm]
theorem ces_L {a b : Pt} {L M N : List Pt} (hb : L = b :: M) (ha : L = N ++ [a]) (e : Pt × Pt) :
    e ∈ ces L ↔ e ∈ es L ∨ e = (a, b) := by
  have h1 : ces L = es (L ++ [b]) := by rw [hb]; rfl
  rw [h1, ha, es_snoc, ← ha]
  simp
theorem cw_cons {v a b : Pt} {L M N : List Pt} (hb : L = b :: M) (ha : L = N ++ [a]) (q : Pt) :
    cw (v :: L) q = cw L q + cw [a, v, b] q := by
  have h1 : cw (v :: L) q = cc v b q + pw (L ++ [v]) q := by rw [hb]; rfl
  have h2 : cw L q = pw (L ++ [b]) q := by rw [hb]; rfl
  have h3 : cw [a, v, b] q = cc a v q + (cc v b q + (cc b a q + 0)) := rfl
  rw [h1, h2, h3, ha, pw_snoc, pw_snoc, ← ha, cc_anti a b]
  omega
structure Seen (v : Pt) (L : List Pt) (a b : Pt) : Prop where
  simp : Simp (v :: L)
  head : ∃ M, L = b :: M
  last : ∃ N, L = N ++ [a]
  turn : cr a v b ≠ 0
theorem Seen.side {v a b : Pt} {L : List Pt} (s : Seen v L a b) {e : Pt × Pt} (he : e ∈ es L) :
    (∀ x, On e.1 e.2 x → On a v x → x = a) ∧ (∀ x, On e.1 e.2 x → On v b x → x = b) := by
  obtain ⟨M, hb⟩ := s.head
  obtain ⟨N, ha⟩ := s.last
  have hn := s.simp.nodup
  rw [List.nodup_cons] at hn
  have hm := es_mem he
  have c := ces_cons (v := v) hb ha
  have k := s.simp.meet e ((c e).2 (Or.inr (Or.inl he)))
  constructor
  · intro x h1 h2
    have := k (a, v) ((c _).2 (Or.inr (Or.inr rfl))) (by rintro rfl; exact hn.1 hm.2) x h1 h2
    rcases this with ⟨r, rfl | rfl⟩
    · rfl
    · rcases r with rfl | rfl
      · exact absurd hm.1 hn.1
      · exact absurd hm.2 hn.1
  · intro x h1 h2
    have := k (v, b) ((c _).2 (Or.inl rfl)) (by rintro rfl; exact hn.1 hm.1) x h1 h2
    rcases this with ⟨r, rfl | rfl⟩
    · rcases r with rfl | rfl
      · exact absurd hm.1 hn.1
      · exact absurd hm.2 hn.1
    · rfl
def Empty (v : Pt) (L : List Pt) (a b : Pt) : Prop := ∀ w ∈ L, w ≠ a → w ≠ b → ¬ InT a v b w
theorem Seen.cap {v a b : Pt} {L : List Pt} (s : Seen v L a b) {κ : Rat} (k0 : 0 ≤ κ)
    (hk : ∀ w ∈ L, w ≠ a → w ≠ b → InT a v b w → bc b a v w ≤ κ) {e : Pt × Pt} (he : e ∈ es L) {y : Pt} (hy : On e.1 e.2 y)
    (ya : 0 < bc v b a y) (ym : 0 ≤ bc b a v y) (yb : 0 < bc a v b y) :
    bc b a v e.1 ≤ κ ∧ bc b a v e.2 ≤ κ ∧ bc b a v y ≤ κ := by
  have h := s.side he
  have hm := es_mem he
  have k : ∀ w ∈ L, InT a v b w → bc b a v w ≤ κ := by
    intro w hw hi
    by_cases h1 : w = a
    · rw [h1, bc_v b a v]; exact k0
    · by_cases h2 : w = b
      · rw [h2, bc_a b a v]; exact k0
      · exact hk w hw h1 h2 hi
  exact ⟨Geo.cap s.turn k0 h.1 h.2 (k _ hm.1) hy ya ym yb,
    Geo.cap s.turn k0 (fun x a b => h.1 x (On_symm a) b) (fun x a b => h.2 x (On_symm a) b) (k _ hm.2) (On_symm hy) ya ym yb,
    Geo.cap2 s.turn k0 h.1 h.2 (k _ hm.1) (k _ hm.2) hy ya ym yb⟩
theorem eq_of_bc {a v b x y : Pt} (h : cr a v b ≠ 0) (h1 : bc v b a x = bc v b a y) (h2 : bc b a v x = bc b a v y) : x = y := by
  have s1 := bc_sum h x
  have s2 := bc_sum h y
  rw [bc_rec h x, bc_rec h y, h1, h2, show bc a v b x = bc a v b y by grind]
end Geo
end
section
/- An empty ear is clear; diagonals exist. -/
namespace Geo
theorem Seen.nadj {v a b : Pt} {L : List Pt} (s : Seen v L a b) (hl : 3 ≤ L.length) :
    (a, b) ∉ es L ∧ (b, a) ∉ es L := by
  obtain ⟨M, hb⟩ := s.head
  obtain ⟨N, ha⟩ := s.last
  have hn := s.simp.nodup
  rw [List.nodup_cons] at hn
  have hn := hn.2
  constructor
  · intro h
    obtain ⟨A, B, e⟩ := es_cut h
    rw [e] at hn hb
    cases A with
    | nil => simp at hb hn; grind
    | cons x A => simp at hb hn; grind
  · intro h
    obtain ⟨A, B, e⟩ := es_cut h
    rw [e] at hn hb
    cases A with
    | cons x A => simp at hb hn; grind
    | nil =>
      rcases List.eq_nil_or_concat B with rfl | ⟨B', x, rfl⟩
      · rw [e] at hl; simp at hl
      · rw [e] at ha
        have e1 : ([b, a] ++ B') ++ [x] = N ++ [a] := by simpa using ha
        have := (List.append_inj' e1 rfl).2
        simp at this hn
        grind
theorem On_line {a v b u w : Pt} (h : cr a v b ≠ 0) (u0 : bc b a v u = 0) (w0 : bc b a v w = 0) {p : Pt} (p0 : bc b a v p = 0)
    (h1 : bc v b a u ≤ bc v b a p) (h2 : bc v b a p ≤ bc v b a w) (h3 : bc v b a u < bc v b a w) : On u w p := by
  have hd : 0 < bc v b a w - bc v b a u := by grind
  obtain ⟨x, hx⟩ : ∃ x : Pt, x = (u.1 + ((bc v b a p - bc v b a u) / (bc v b a w - bc v b a u)) * (w.1 - u.1), u.2 + ((bc v b a p - bc v b a u) / (bc v b a w - bc v b a u)) * (w.2 - u.2)) := ⟨_, rfl⟩
  have e1 := bc_aff v b a hx
  have e2 := bc_aff b a v hx
  have : p = x := eq_of_bc h (by grind) (by grind)
  exact ⟨(bc v b a p - bc v b a u) / (bc v b a w - bc v b a u), div_nn hd (by grind), div_le1 hd (by grind), this.trans hx⟩
/-- no side of the polygon comes into an empty ear -/
theorem Seen.clear {v a b : Pt} {L : List Pt} (s : Seen v L a b) (em : Empty v L a b) (hl : 3 ≤ L.length)
    {e : Pt × Pt} (he : e ∈ ces (v :: L)) {y : Pt} (hy : On e.1 e.2 y)
    (ya : 0 < bc v b a y) (ym : 0 ≤ bc b a v y) (yb : 0 < bc a v b y) : False := by
  obtain ⟨M, hb⟩ := s.head
  obtain ⟨N, ha⟩ := s.last
  have hce := ces_cons (v := v) hb ha
  have hr : cr v b a ≠ 0 := by rw [cr_rot2]; exact s.turn
  have a1 := bc_b hr
  have a2 := bc_v b a v
  have a3 := bc_a a v b
  have b1 := bc_v v b a
  have b2 := bc_a b a v
  have b3 := bc_b s.turn
  have v1 := bc_a v b a
  have v3 := bc_v a v b
  rcases (hce e).1 he with rfl | h | rfl
  · obtain ⟨t, t0, t1, hx⟩ := hy
    have := bc_aff v b a hx
    grind
  · obtain ⟨c1, c2, c3⟩ := s.cap (κ := 0) (by grind) (fun w hw h1 h2 h3 => absurd h3 (em w hw h1 h2)) h hy ya ym yb
    have hm := es_mem h
    have y0 : bc b a v y = 0 := by grind
    obtain ⟨t, t0, t1, hx⟩ := id hy
    have ea := bc_aff v b a hx
    have eb := bc_aff a v b hx
    have ec := bc_aff b a v hx
    have su := bc_sum s.turn e.1
    have sw := bc_sum s.turn e.2
    have sy := bc_sum s.turn y
    -- an end within the open chord is impossible
    have noend : ∀ w ∈ L, bc b a v w = 0 → 0 < bc v b a w → 0 < bc a v b w → False := by
      intro w hw w0 wa wb
      refine em w hw ?_ ?_ ⟨by grind, by grind, by grind⟩
      · rintro rfl; grind
      · rintro rfl; grind
    have hu0 : ∀ (t : Rat), 0 ≤ t → t ≤ 1 → (1 - t) * bc b a v e.1 + t * bc b a v e.2 = 0 →
        t = 0 ∨ t = 1 ∨ (bc b a v e.1 = 0 ∧ bc b a v e.2 = 0) := by
      intro t t0 t1 h0
      by_cases h1 : t = 0
      · exact Or.inl h1
      by_cases h2 : t = 1
      · exact Or.inr (Or.inl h2)
      right; right
      have p1 := Rat.mul_nonneg t0 (show 0 ≤ - bc b a v e.2 by grind)
      have p2 := Rat.mul_nonneg (show 0 ≤ 1 - t by grind) (show 0 ≤ - bc b a v e.1 by grind)
      have z1 : t * bc b a v e.2 = 0 := by grind
      have z2 : (1 - t) * bc b a v e.1 = 0 := by grind
      constructor <;> grind
    rcases hu0 t t0 t1 (by grind) with h0 | h1 | ⟨u0, w0⟩
    · exact noend e.1 hm.1 (by grind) (by grind) (by grind)
    · exact noend e.2 hm.2 (by grind) (by grind) (by grind)
    · have ku : bc v b a e.1 ≤ 0 ∨ 1 ≤ bc v b a e.1 := by
        by_cases h1 : 0 < bc v b a e.1
        · by_cases h2 : 0 < bc a v b e.1
          · exact absurd h2 (fun h2 => noend e.1 hm.1 u0 h1 h2)
          · grind
        · grind
      have kw : bc v b a e.2 ≤ 0 ∨ 1 ≤ bc v b a e.2 := by
        by_cases h1 : 0 < bc v b a e.2
        · by_cases h2 : 0 < bc a v b e.2
          · exact absurd h2 (fun h2 => noend e.2 hm.2 w0 h1 h2)
          · grind
        · grind
      have hab : On e.1 e.2 a ∧ On e.1 e.2 b := by
        rcases ku with ku | ku <;> rcases kw with kw | kw
        · have := between_le t0 t1 ku kw; grind
        · exact ⟨On_line s.turn u0 w0 a2 (by grind) (by grind) (by grind), On_line s.turn u0 w0 b2 (by grind) (by grind) (by grind)⟩
        · exact ⟨On_symm (On_line s.turn w0 u0 a2 (by grind) (by grind) (by grind)), On_symm (On_line s.turn w0 u0 b2 (by grind) (by grind) (by grind))⟩
        · have := between_le (A := - bc v b a e.1) (B := - bc v b a e.2) (κ := -1) t0 t1 (by grind) (by grind); grind
      have ha' : a ∈ v :: L := by rw [ha]; simp
      have hb' : b ∈ v :: L := by rw [hb]; simp
      have r1 := s.simp.vert he ha' hab.1
      have r2 := s.simp.vert he hb' hab.2
      have nab : a ≠ b := by rintro rfl; grind
      have nad := s.nadj hl
      obtain ⟨e1, e2⟩ := e
      simp only at r1 r2
      rcases r1 with rfl | rfl <;> rcases r2 with rfl | rfl
      · exact nab rfl
      · exact nad.1 h
      · exact nad.2 h
      · exact nab rfl
  · obtain ⟨t, t0, t1, hx⟩ := hy
    have := bc_aff a v b hx
    grind
theorem Seen.diag {v a b : Pt} {L : List Pt} (s : Seen v L a b) (em : Empty v L a b) (hl : 3 ≤ L.length) : Diag (v :: L) a b := by
  obtain ⟨M, hb⟩ := s.head
  obtain ⟨N, ha⟩ := s.last
  have hr : cr v b a ≠ 0 := by rw [cr_rot2]; exact s.turn
  have a1 := bc_b hr
  have a2 := bc_v b a v
  have a3 := bc_a a v b
  have b1 := bc_v v b a
  have b2 := bc_a b a v
  have b3 := bc_b s.turn
  have ha' : a ∈ v :: L := by rw [ha]; simp
  have hb' : b ∈ v :: L := by rw [hb]; simp
  intro e he x hx hy
  have key : x = a ∨ x = b := by
    obtain ⟨t, t0, t1, h⟩ := hy
    have e1 := bc_aff v b a h
    have e2 := bc_aff b a v h
    have e3 := bc_aff a v b h
    by_cases h0 : t = 0
    · left; apply eq_of_bc s.turn <;> grind
    · by_cases h1 : t = 1
      · right; apply eq_of_bc s.turn <;> grind
      · exact (s.clear em hl he hx (by grind) (by grind) (by grind)).elim
  refine ⟨?_, key⟩
  rcases key with rfl | rfl
  · exact s.simp.vert he ha' hx
  · exact s.simp.vert he hb' hx
/-- cutting an empty ear off -/
theorem Seen.cut {v a b : Pt} {L : List Pt} (s : Seen v L a b) (em : Empty v L a b) (hl : 3 ≤ L.length) : Simp L := by
  obtain ⟨M, hb⟩ := s.head
  obtain ⟨N, ha⟩ := s.last
  have hn := s.simp.nodup
  rw [List.nodup_cons] at hn
  refine s.simp.sub (s.diag em hl) hl hn.2 ?_
  intro e he
  rcases (ces_L hb ha e).1 he with h | h
  · exact Or.inl ((ces_cons hb ha e).2 (Or.inr (Or.inl h)))
  · exact Or.inr h
theorem exists_max (f : Pt → Rat) (p : Pt → Prop) (l : List Pt) (h : ∃ w ∈ l, p w) : ∃ z ∈ l, p z ∧ ∀ w ∈ l, p w → f w ≤ f z := by
  induction l with
  | nil => simp at h
  | cons a l ih =>
    by_cases hl : ∃ w ∈ l, p w
    · obtain ⟨z, hz, pz, mz⟩ := ih hl
      by_cases ha : p a ∧ f z < f a
      · refine ⟨a, by simp, ha.1, ?_⟩
        intro w hw pw
        rcases List.mem_cons.1 hw with rfl | hw
        · exact Rat.le_refl
        · have := mz w hw pw; grind
      · refine ⟨z, by simp [hz], pz, ?_⟩
        intro w hw pw
        rcases List.mem_cons.1 hw with rfl | hw
        · grind
        · exact mz w hw pw
    · obtain ⟨w, hw, pw⟩ := h
      rcases List.mem_cons.1 hw with rfl | hw
      · refine ⟨w, by simp, pw, ?_⟩
        intro w' hw' pw'
        rcases List.mem_cons.1 hw' with rfl | hw'
        · exact Rat.le_refl
        · exact absurd ⟨w', hw', pw'⟩ hl
      · exact absurd ⟨w, hw, pw⟩ hl
/-- where the triangle at v is not empty, v sees a vertex in it -/
theorem Seen.see {v a b : Pt} {L : List Pt} (s : Seen v L a b) (em : ¬ Empty v L a b) :
    ∃ z ∈ L, z ≠ a ∧ z ≠ b ∧ Diag (v :: L) v z ∧ 0 < bc v b a z ∧ 0 ≤ bc b a v z ∧ 0 < bc a v b z := by
  obtain ⟨M, hb⟩ := s.head
  obtain ⟨N, ha⟩ := s.last
  have hce := ces_cons (v := v) hb ha
  have hr : cr v b a ≠ 0 := by rw [cr_rot2]; exact s.turn
  have hr2 : cr b a v ≠ 0 := by rw [← cr_rot2]; exact s.turn
  have h0 : ∃ w ∈ L, w ≠ a ∧ w ≠ b ∧ InT a v b w := by
    unfold Empty at em
    simp only [Classical.not_forall, Classical.not_not] at em
    obtain ⟨w, h1, h2, h3, h4⟩ := em
    exact ⟨w, h1, h2, h3, h4⟩
  obtain ⟨z, hz, ⟨za, zb, zi⟩, mz⟩ := exists_max (bc b a v) (fun w => w ≠ a ∧ w ≠ b ∧ InT a v b w) L h0
  have hn := s.simp.nodup
  rw [List.nodup_cons] at hn
  have zv : z ≠ v := by rintro rfl; exact hn.1 hz
  have z1 : 0 < bc v b a z := by
    have := zi.1
    by_cases h : bc v b a z = 0
    · have on := On_side hr h zi.2.1 zi.2.2
      have := s.simp.vert ((hce (v, b)).2 (Or.inl rfl)) (List.mem_cons_of_mem _ hz) on
      grind
    · grind
  have z3 : 0 < bc a v b z := by
    have := zi.2.2
    by_cases h : bc a v b z = 0
    · have on := On_side s.turn h zi.1 zi.2.1
      have := s.simp.vert ((hce (a, v)).2 (Or.inr (Or.inr rfl))) (List.mem_cons_of_mem _ hz) on
      grind
    · grind
  have z2 := zi.2.1
  refine ⟨z, hz, za, zb, ?_, z1, z2, z3⟩
  intro e he x hx hy
  have v1 := bc_a v b a
  have v3 := bc_v a v b
  have v2 := bc_b hr2
  have a3 := bc_a a v b
  have b1 := bc_v v b a
  have sz := bc_sum s.turn z
  have key : x = v ∨ x = z := by
    obtain ⟨t, t0, t1, h⟩ := hy
    have e1 := bc_aff v b a h
    have e2 := bc_aff b a v h
    have e3 := bc_aff a v b h
    by_cases h0 : t = 0
    · left; rw [h, h0]; apply Prod.ext <;> simp only <;> grind
    · by_cases h1 : t = 1
      · right; rw [h, h1]; apply Prod.ext <;> simp only <;> grind
      · exfalso
        have p1 := Rat.mul_pos (show 0 < t by grind) z1
        have p3 := Rat.mul_pos (show 0 < t by grind) z3
        have p2 := Rat.mul_pos (show 0 < 1 - t by grind) (show 0 < 1 - bc b a v z by grind)
        have q1 : 0 < bc v b a x := by rw [e1, v1, Rat.mul_zero, Rat.zero_add]; exact p1
        have q3 : 0 < bc a v b x := by rw [e3, v3, Rat.mul_zero, Rat.zero_add]; exact p3
        have q2 : bc b a v z < bc b a v x := by
          rw [e2, v2, Rat.mul_one]
          generalize bc b a v z = Z at *
          clear mz hce em he hx h e1 e2 e3
          grind
        have q2' : 0 ≤ bc b a v x := Rat.le_trans z2 (Rat.le_of_lt q2)
        rcases (hce e).1 he with rfl | h2 | rfl
        · obtain ⟨r, r0, r1, h3⟩ := hx
          have := bc_aff v b a h3
          grind
        · have := (s.cap z2 (fun w hw h1 h2 h3 => mz w hw ⟨h1, h2, h3⟩) h2 hx q1 q2' q3).2.2
          exact absurd this (Rat.not_le.2 q2)
        · obtain ⟨r, r0, r1, h3⟩ := hx
          have := bc_aff a v b h3
          clear mz hce em he; grind
  refine ⟨?_, key⟩
  rcases key with rfl | rfl
  · exact s.simp.vert he (by simp) hx
  · exact s.simp.vert he (by simp [hz]) hx
end Geo
end
section
/- Every simple polygon has ears. -/
namespace Geo
def Off (P : List Pt) (q : Pt) : Prop := ∀ e ∈ ces P, ¬ On e.1 e.2 q
theorem On_pos {A B t : Rat} (t0 : 0 ≤ t) (t1 : t ≤ 1) (ha : 0 < A) (hb : 0 < B) : 0 < (1 - t) * A + t * B := by
  by_cases h : t = 0
  · subst h; grind
  · have p1 := Rat.mul_pos (show 0 < t by grind) hb
    have p2 := Rat.mul_nonneg (show 0 ≤ 1 - t by grind) (show 0 ≤ A by grind)
    grind
theorem On_nn {A B t : Rat} (t0 : 0 ≤ t) (t1 : t ≤ 1) (ha : 0 ≤ A) (hb : 0 ≤ B) : 0 ≤ (1 - t) * A + t * B := by
  have p1 := Rat.mul_nonneg t0 hb
  have p2 := Rat.mul_nonneg (show 0 ≤ 1 - t by grind) ha
  grind
theorem Seen.const {v a b : Pt} {L : List Pt} (s : Seen v L a b) (em : Empty v L a b) (hl : 3 ≤ L.length) {y z : Pt}
    (y1 : 0 < bc v b a y) (y2 : 0 ≤ bc b a v y) (y3 : 0 < bc a v b y)
    (z1 : 0 < bc v b a z) (z2 : 0 ≤ bc b a v z) (z3 : 0 < bc a v b z) : cw (v :: L) z = cw (v :: L) y := by
  apply cw_move
  intro e he x hx hy
  obtain ⟨t, t0, t1, h⟩ := hx
  have e1 := On_pos t0 t1 y1 z1
  have e2 := On_nn t0 t1 y2 z2
  have e3 := On_pos t0 t1 y3 z3
  rw [← bc_aff v b a h] at e1
  rw [← bc_aff b a v h] at e2
  rw [← bc_aff a v b h] at e3
  exact s.clear em hl he hy e1 e2 e3
theorem Seen.apex {v a b : Pt} {L : List Pt} (s : Seen v L a b) (em : Empty v L a b) {y : Pt}
    (y1 : 0 < bc v b a y) (y2 : 0 < bc b a v y) (y3 : 0 < bc a v b y) : cw L y = cw L v := by
  obtain ⟨M, hb⟩ := s.head
  obtain ⟨N, ha⟩ := s.last
  have hr2 : cr b a v ≠ 0 := by rw [← cr_rot2]; exact s.turn
  have v1 := bc_a v b a
  have v3 := bc_v a v b
  have v2 := bc_b hr2
  have hn := s.simp.nodup
  rw [List.nodup_cons] at hn
  apply cw_move
  intro e he x hx hy
  obtain ⟨t, t0, t1, h⟩ := hx
  have m2 : 0 < bc b a v x := by
    rw [bc_aff b a v h, v2]
    by_cases h1 : t = 0
    · subst h1; grind
    · have p2 := Rat.mul_pos (show 0 < t by grind) y2
      grind
  rcases (ces_L hb ha e).1 he with h1 | rfl
  · by_cases ht : t = 0
    · have hxv : x = v := by rw [h, ht]; apply Prod.ext <;> simp only <;> grind
      have := s.simp.vert ((ces_cons hb ha e).2 (Or.inr (Or.inl h1))) (by simp) (hxv ▸ hy)
      have hm := es_mem h1
      rcases this with h2 | h2
      · rw [← h2] at hm; exact hn.1 hm.1
      · rw [← h2] at hm; exact hn.1 hm.2
    · have tp : 0 < t := by grind
      have m1 : 0 < bc v b a x := by
        rw [bc_aff v b a h, v1]
        have := Rat.mul_pos tp y1
        grind
      have m3 : 0 < bc a v b x := by
        rw [bc_aff a v b h, v3]
        have := Rat.mul_pos tp y3
        grind
      have := (s.cap (κ := 0) (by grind) (fun w hw h1 h2 h3 => absurd h3 (em w hw h1 h2)) h1 hy m1 (by grind) m3).2.2
      exact absurd this (Rat.not_le.2 m2)
  · obtain ⟨r, r0, r1, h3⟩ := hy
    have e2 := bc_aff b a v h3
    rw [bc_v, bc_a] at e2
    grind
/-- the middle of a triangle -/
def mid (a v b : Pt) : Pt := ((a.1 + v.1 + b.1) / 3, (a.2 + v.2 + b.2) / 3)
theorem mid_pos {a v b : Pt} (h : cr a v b ≠ 0) : 0 < bc a v b (mid a v b) := by
  have : cr a v (mid a v b) = (1 / 3) * cr a v b := by unfold cr mid; grind
  have : bc a v b (mid a v b) = 1 / 3 := by unfold bc; rw [this]; grind
  rw [this]; grind
theorem mid_rot (a v b : Pt) : mid v b a = mid a v b := by unfold mid; apply Prod.ext <;> simp only <;> grind
theorem mid_in {a v b : Pt} (h : cr a v b ≠ 0) : 0 < bc v b a (mid a v b) ∧ 0 < bc b a v (mid a v b) ∧ 0 < bc a v b (mid a v b) := by
  refine ⟨?_, ?_, mid_pos h⟩
  · rw [← mid_rot]; exact mid_pos (by rw [cr_rot2]; exact h)
  · rw [← mid_rot, ← mid_rot]; exact mid_pos (by rw [← cr_rot2]; exact h)
/-! the least vertex -/
def lex (m w : Pt) : Prop := m.1 < w.1 ∨ (m.1 = w.1 ∧ m.2 < w.2)
theorem lex_total {a b : Pt} (h : a ≠ b) : lex a b ∨ lex b a := by
  unfold lex
  obtain ⟨a1, a2⟩ := a
  obtain ⟨b1, b2⟩ := b
  simp only [ne_eq, Prod.mk.injEq] at *
  grind
theorem lex_trans {a b c : Pt} (h1 : lex a b) (h2 : lex b c) : lex a c := by
  unfold lex at *; grind
theorem exists_least (P : List Pt) (h : P ≠ []) : ∃ m ∈ P, ∀ w ∈ P, w ≠ m → lex m w := by
  induction P with
  | nil => exact absurd rfl h
  | cons a l ih =>
    by_cases hl : l = []
    · subst hl; exact ⟨a, by simp, by simp⟩
    · obtain ⟨m, hm, hm2⟩ := ih hl
      by_cases e : a = m
      · subst e
        refine ⟨a, by simp, ?_⟩
        intro w hw hne
        rcases List.mem_cons.1 hw with rfl | hw
        · exact absurd rfl hne
        · exact hm2 w hw hne
      · rcases lex_total e with h1 | h1
        · refine ⟨a, by simp, ?_⟩
          intro w hw hne
          rcases List.mem_cons.1 hw with rfl | hw
          · exact absurd rfl hne
          · by_cases e2 : w = m
            · subst e2; exact h1
            · exact lex_trans h1 (hm2 w hw e2)
        · refine ⟨m, by simp [hm], ?_⟩
          intro w hw hne
          rcases List.mem_cons.1 hw with rfl | hw
          · exact h1
          · exact hm2 w hw hne
theorem cc_lex {u v m : Pt} (hu : lex m u) (hv : lex m v) :
    cc u v m = (if m.2 < v.2 then 1 else 0) - (if m.2 < u.2 then 1 else 0) := by
  have key : ∀ {u v : Pt}, lex m u → lex m v → u.2 ≤ m.2 → m.2 < v.2 → 0 < cr u v m := by
    intro u v hu hv h1 h2
    have e : cr u v m = (m.2 - u.2) * (v.1 - m.1) + (v.2 - m.2) * (u.1 - m.1) := by unfold cr; grind
    unfold lex at hu hv
    have p1 := Rat.mul_nonneg (show 0 ≤ m.2 - u.2 by grind) (show 0 ≤ v.1 - m.1 by grind)
    have p2 := Rat.mul_pos (show 0 < v.2 - m.2 by grind) (show 0 < u.1 - m.1 by grind)
    grind
  have k1 := key hu hv
  have k2 := key hv hu
  rw [cr_anti] at k2
  unfold cc
  grind
theorem pw_lex {m : Pt} (L : List Pt) (a b : Pt) (h : ∀ w ∈ a :: (L ++ [b]), lex m w) :
    pw (a :: (L ++ [b])) m = (if m.2 < b.2 then 1 else 0) - (if m.2 < a.2 then 1 else 0) := by
  induction L generalizing a with
  | nil => simp [cc_lex (h a (by simp)) (h b (by simp))]
  | cons c L ih =>
    have h1 := cc_lex (h a (by simp)) (h c (by simp))
    have h2 := ih c (fun w hw => h w (by simp at hw ⊢; exact Or.inr hw))
    simp only [List.cons_append, pw_two] at *
    omega
theorem cw_lex {m : Pt} (P : List Pt) (h : ∀ w ∈ P, lex m w) : cw P m = 0 := by
  cases P with
  | nil => rfl
  | cons a l =>
    have := pw_lex l a a (fun w hw => h w (by simp only [List.mem_cons, List.mem_append, List.not_mem_nil, or_false] at hw ⊢; grind))
    simp only [cw]; omega
theorem notInT_lex {m a v b : Pt} (h : cr a v b ≠ 0) (ha : lex m a) (hv : lex m v) (hb : lex m b) : ¬ InT a v b m := by
  intro ⟨h1, h2, h3⟩
  have s := bc_sum h m
  have r := bc_rec h m
  generalize bc v b a m = A at *
  generalize bc b a v m = B at *
  generalize bc a v b m = C at *
  obtain ⟨m1, m2⟩ := m
  simp only [Prod.mk.injEq] at r
  obtain ⟨r1, r2⟩ := r
  unfold lex at *
  simp only at *
  have p1 := Rat.mul_nonneg h1 (show 0 ≤ a.1 - m1 by grind)
  have p2 := Rat.mul_nonneg h2 (show 0 ≤ v.1 - m1 by grind)
  have p3 := Rat.mul_nonneg h3 (show 0 ≤ b.1 - m1 by grind)
  have t1 : (A + B + C) * m1 = m1 := by rw [s, Rat.one_mul]
  have t2 : (A + B + C) * m2 = m2 := by rw [s, Rat.one_mul]
  have t3 : A * (a.1 - m1) + B * (v.1 - m1) + C * (b.1 - m1) = 0 := by clear ha hv hb p1 p2 p3 h; grind
  have t4 : A * (a.2 - m2) + B * (v.2 - m2) + C * (b.2 - m2) = 0 := by clear ha hv hb p1 p2 p3 h; grind
  have z1 : A * (a.1 - m1) = 0 := by clear ha hv hb h; grind
  have z2 : B * (v.1 - m1) = 0 := by clear ha hv hb h; grind
  have z3 : C * (b.1 - m1) = 0 := by clear ha hv hb h; grind
  have q1 : 0 ≤ A * (a.2 - m2) ∧ (A = 0 ∨ 0 < A * (a.2 - m2)) := by
    by_cases h : A = 0
    · subst h; grind
    · have : 0 < a.2 - m2 := by grind
      have := Rat.mul_pos (show 0 < A by grind) this; grind
  have q2 : 0 ≤ B * (v.2 - m2) ∧ (B = 0 ∨ 0 < B * (v.2 - m2)) := by
    by_cases h : B = 0
    · subst h; grind
    · have : 0 < v.2 - m2 := by grind
      have := Rat.mul_pos (show 0 < B by grind) this; grind
  have q3 : 0 ≤ C * (b.2 - m2) ∧ (C = 0 ∨ 0 < C * (b.2 - m2)) := by
    by_cases h : C = 0
    · subst h; grind
    · have : 0 < b.2 - m2 := by grind
      have := Rat.mul_pos (show 0 < C by grind) this; grind
  clear ha hv hb z1 z2 z3 p1 p2 p3 h t1 t2 t3 r1 r2
  grind
theorem On_ray {m a b : Pt} (ha : lex m a) (hb : lex m b) (h : cr a m b = 0) : On m a b ∨ On m b a := by
  have main : ∀ {a b : Pt}, lex m a → lex m b → cr a m b = 0 → m.1 < a.1 → b.1 ≤ a.1 → On m a b := by
    intro a b ha hb h h1 h2
    have hd : 0 < a.1 - m.1 := by grind
    have hb1 : 0 ≤ b.1 - m.1 := by unfold lex at hb; grind
    refine ⟨(b.1 - m.1) / (a.1 - m.1), div_nn hd hb1, div_le1 hd (by grind), ?_⟩
    have e : (b.1 - m.1) / (a.1 - m.1) * (a.1 - m.1) = b.1 - m.1 := by grind
    have e2 : (b.1 - m.1) / (a.1 - m.1) * (a.2 - m.2) = b.2 - m.2 := by unfold cr at h; grind
    obtain ⟨b1, b2⟩ := b
    simp only at *
    rw [e, e2]; apply Prod.ext <;> simp only <;> grind
  have main2 : ∀ {a b : Pt}, m.2 < a.2 → m.2 ≤ b.2 → b.2 ≤ a.2 → a.1 = m.1 → b.1 = m.1 → On m a b := by
    intro a b h1 h2 h3 h4 h5
    have hd : 0 < a.2 - m.2 := by grind
    refine ⟨(b.2 - m.2) / (a.2 - m.2), div_nn hd (by grind), div_le1 hd (by grind), ?_⟩
    have e : (b.2 - m.2) / (a.2 - m.2) * (a.2 - m.2) = b.2 - m.2 := by grind
    obtain ⟨b1, b2⟩ := b
    simp only at *
    rw [e, h4]; apply Prod.ext <;> simp only <;> grind
  have h' : cr b m a = 0 := by rw [show cr b m a = - cr a m b by unfold cr; grind, h]; grind
  by_cases h1 : m.1 < a.1
  · rcases Rat.le_total (a := b.1) (b := a.1) with h2 | h2
    · exact Or.inl (main ha hb h h1 h2)
    · exact Or.inr (main hb ha h' (by grind) h2)
  · by_cases h2 : m.1 < b.1
    · exact Or.inr (main hb ha h' h2 (by unfold lex at ha; grind))
    · unfold lex at ha hb
      rcases Rat.le_total (a := b.2) (b := a.2) with h3 | h3
      · exact Or.inl (main2 (by grind) (by grind) h3 (by grind) (by grind))
      · exact Or.inr (main2 (by grind) (by grind) h3 (by grind) (by grind))
end Geo
end
section
/- The ear theorem. -/
namespace Geo
theorem ces_sub {m z : Pt} {C E : List Pt} : (∀ e ∈ es (m :: (C ++ [z])), e ∈ ces (m :: (C ++ z :: E))) ∧
    (∀ e ∈ es (z :: (E ++ [m])), e ∈ ces (m :: (C ++ z :: E))) ∧
    (∀ e ∈ ces (m :: (C ++ z :: E)), e ∈ es (m :: (C ++ [z])) ∨ e ∈ es (z :: (E ++ [m]))) := by
  have h : ces (m :: (C ++ z :: E)) = es (m :: (C ++ [z])) ++ es (z :: (E ++ [m])) := by
    have := es_split (m :: C) z (E ++ [m])
    simp only [List.cons_append, List.append_assoc] at this
    simp only [ces, List.append_assoc, List.cons_append]
    exact this
  rw [h]
  simp only [List.mem_append]
  exact ⟨fun e h => Or.inl h, fun e h => Or.inr h, fun e h => h⟩
theorem ces_path (m z : Pt) (C : List Pt) (e : Pt × Pt) : e ∈ ces (m :: (C ++ [z])) ↔ e ∈ es (m :: (C ++ [z])) ∨ e = (z, m) := by
  have := es_snoc (m :: C) z m
  simp only [List.cons_append, List.append_assoc] at this
  simp only [ces, List.append_assoc, List.cons_append]
  simp only [List.append_assoc, List.cons_append, List.nil_append] at this ⊢
  rw [this]
  simp
theorem cw_path (m z : Pt) (C : List Pt) (q : Pt) : cw (m :: (C ++ [z])) q = pw (m :: (C ++ [z])) q + cc z m q := by
  have := pw_snoc (m :: C) z m q
  simp only [List.cons_append, List.append_assoc] at this
  simp only [cw, List.append_assoc, List.cons_append]
  simp only [List.append_assoc, List.cons_append, List.nil_append] at this ⊢
  rw [this]
/-- a chord cuts a polygon in two -/
theorem cw_chord (m z : Pt) (C F : List Pt) (q : Pt) :
    cw (m :: (C ++ z :: F)) q = cw (m :: z :: F) q + cw (m :: (C ++ [z])) q := by
  rw [cw_path]
  have := pw_split (m :: C) z (F ++ [m]) q
  simp only [List.cons_append, List.append_assoc] at this
  simp only [cw, List.append_assoc, List.cons_append, pw_two]
  rw [this, cc_anti m z]
  omega
theorem chain_last (f : Pt → Int) (E : List Pt) (a : Pt) (h : ∀ e ∈ es (E ++ [a]), f e.1 = f e.2) : ∀ w ∈ E ++ [a], f w = f a := by
  induction E with
  | nil => simp
  | cons b E ih =>
    intro w hw
    have h2 : ∀ e ∈ es (E ++ [a]), f e.1 = f e.2 := by
      intro e he
      apply h
      cases hE : E ++ [a] with
      | nil => simp at hE
      | cons c F => rw [List.cons_append, hE]; simp; rw [hE] at he; exact Or.inr he
    rcases List.mem_cons.1 hw with rfl | hw
    · cases hE : E ++ [a] with
      | nil => simp at hE
      | cons c F =>
        have := h (w, c) (by rw [List.cons_append, hE]; simp)
        simp only at this
        rw [this]
        exact ih h2 c (by rw [hE]; simp)
    · exact ih h2 w hw
theorem cr_comb {a m b z : Pt} (h : cr a m b ≠ 0) : cr z m b = bc m b a z * cr a m b ∧ cr z m a = - (bc a m b z * cr a m b) := by
  have h1 := bc_mul h z
  have h2 := bc_mul (a := m) (v := b) (b := a) (by rw [cr_rot2]; exact h) z
  rw [cr_rot2] at h2
  rw [h1, h2]
  constructor <;> (unfold cr; grind)
/-- the two parts that a chord at the least vertex makes are outside of one another -/
theorem Seen.chain {m a b z : Pt} {C E : List Pt} (s : Seen m (C ++ z :: E) a b) (hC : C ≠ []) (hE : E ≠ [])
    (d : Diag (m :: (C ++ z :: E)) m z) (hm : ∀ w ∈ C ++ z :: E, lex m w)
    (z1 : 0 < bc m b a z) (z3 : 0 < bc a m b z) : ∀ w ∈ E, cw (m :: (C ++ [z])) w = 0 := by
  obtain ⟨M, hb⟩ := s.head
  obtain ⟨N, ha⟩ := s.last
  have hce := ces_cons (v := m) hb ha
  obtain ⟨b', C', rfl⟩ : ∃ b' C', C = b' :: C' := by
    cases C with
    | nil => exact absurd rfl hC
    | cons x C => exact ⟨x, C, rfl⟩
  obtain rfl : b' = b := by simp at hb; exact hb.1
  obtain ⟨E', a', rfl⟩ : ∃ E' a', E = E' ++ [a'] := by
    rcases List.eq_nil_or_concat E with rfl | ⟨E', x, rfl⟩
    · exact absurd rfl hE
    · exact ⟨E', x, by simp⟩
  obtain rfl : a' = a := by
    have e : ((b' :: C') ++ z :: E') ++ [a'] = N ++ [a] := by rw [← ha]; simp
    have := (List.append_inj' e rfl).2
    simpa using this
  have hn := s.simp.nodup
  have cs := @ces_sub m z (b' :: C') (E' ++ [a'])
  have nd : ∀ w ∈ E' ++ [a'], w ∉ m :: ((b' :: C') ++ [z]) := by
    intro w hw hw2
    have e : m :: ((b' :: C') ++ z :: (E' ++ [a'])) = (m :: ((b' :: C') ++ [z])) ++ (E' ++ [a']) := by simp
    rw [e, List.nodup_append] at hn
    exact hn.2.2 w hw2 w hw rfl
  have step : ∀ e ∈ es (E' ++ [a']), cw (m :: ((b' :: C') ++ [z])) e.1 = cw (m :: ((b' :: C') ++ [z])) e.2 := by
    intro e he
    have hem := es_mem he
    have heP : e ∈ ces (m :: ((b' :: C') ++ z :: (E' ++ [a']))) := by
      apply cs.2.1
      have := es_split [z] z (E' ++ [a'] ++ [m])
      cases hE' : E' ++ [a'] with
      | nil => simp at hE'
      | cons c F =>
        rw [hE'] at he
        rw [List.cons_append, es_two]
        rcases List.eq_nil_or_concat F with rfl | ⟨F', x, rfl⟩
        · simp at he
        · have := es_snoc (c :: F') x m
          simp only [List.cons_append, List.concat_eq_append] at this he ⊢
          rw [this]
          simp [he]
    symm
    apply cw_move
    intro f hf x hx hy
    rcases (ces_path m z (b' :: C') f).1 hf with h1 | rfl
    · have hfm := es_mem h1
      have := s.simp.meet e heP f (cs.1 f h1) (by rintro rfl; exact nd _ hem.1 hfm.1) x hx hy
      rcases this.1 with rfl | rfl <;> rcases this.2 with h2 | h2
      · exact nd _ hem.1 (h2 ▸ hfm.1)
      · exact nd _ hem.1 (h2 ▸ hfm.2)
      · exact nd _ hem.2 (h2 ▸ hfm.1)
      · exact nd _ hem.2 (h2 ▸ hfm.2)
    · have := d e heP x hx (On_symm hy)
      rcases this.1 with rfl | rfl <;> rcases this.2 with h2 | h2
      · exact nd _ hem.1 (by rw [h2]; simp)
      · exact nd _ hem.1 (by rw [h2]; simp)
      · exact nd _ hem.2 (by rw [h2]; simp)
      · exact nd _ hem.2 (by rw [h2]; simp)
  have base : cw (m :: ((b' :: C') ++ [z])) a' = 0 := by
    rw [cw_cons (v := m) (L := (b' :: C') ++ [z]) (a := z) (b := b') (M := C' ++ [z]) (N := b' :: C') (by simp) rfl]
    have cc := cr_comb (z := z) s.turn
    have ca := cr_comb (z := a') s.turn
    have t1 : cr z m b' ≠ 0 := by rw [cc.1]; have := s.turn; grind
    have tri : cw [z, m, b'] a' = 0 := by
      apply triOut t1
      intro hi
      have e1 := bc_mul t1 a'
      have : bc z m b' a' * bc m b' a' z = - bc a' m b' z := by
        apply mul_cancel s.turn
        rw [cc.2, cc.1] at e1
        grind
      have p := Rat.mul_nonneg hi.2.2 (show 0 ≤ bc m b' a' z by grind)
      grind
    have mv : cw ((b' :: C') ++ [z]) a' = cw ((b' :: C') ++ [z]) m := by
      symm
      apply cw_move
      intro f hf x hx hy
      have hf' := (ces_L (L := (b' :: C') ++ [z]) (a := z) (b := b') (M := C' ++ [z]) (N := b' :: C') (by simp) rfl f).1 hf
      have mL : ∀ w ∈ (b' :: C') ++ [z], w ≠ m ∧ w ≠ a' := by
        intro w hw
        constructor
        · rintro rfl
          rw [List.nodup_cons] at hn
          apply hn.1
          simp only [List.mem_append, List.mem_cons, List.not_mem_nil, or_false] at hw ⊢
          grind
        · rintro rfl
          exact nd w (by simp) (List.mem_cons_of_mem _ hw)
      rcases hf' with h1 | rfl
      · have hfm := es_mem h1
        have hfP : f ∈ ces (m :: ((b' :: C') ++ z :: (E' ++ [a']))) := by
          apply cs.1
          simp only [List.cons_append, es_two] at h1 ⊢
          exact List.mem_cons_of_mem _ h1
        have := s.simp.meet (a', m) ((hce _).2 (Or.inr (Or.inr rfl))) f hfP (by rintro rfl; exact (mL _ hfm.2).1 rfl) x hx hy
        rcases this.1 with rfl | rfl <;> rcases this.2 with h2 | h2
        · exact (mL _ hfm.1).2 h2.symm
        · exact (mL _ hfm.2).2 h2.symm
        · exact (mL _ hfm.1).1 h2.symm
        · exact (mL _ hfm.2).1 h2.symm
      · obtain ⟨t, t0, t1, h1⟩ := hx
        obtain ⟨r, r0, r1, h2⟩ := hy
        have e1 := bc_aff a' m b' h1
        have e2 := bc_aff a' m b' h2
        rw [bc_a, bc_v] at e1
        rw [bc_b s.turn] at e2
        have := On_pos r0 r1 z3 (show (0 : Rat) < 1 by grind)
        simp only at *
        grind
    rw [tri, mv, cw_lex]
    · rfl
    · intro w hw
      apply hm
      simp only [List.mem_append, List.mem_cons, List.not_mem_nil, or_false] at hw ⊢
      grind
  intro w hw
  rw [chain_last (fun w => cw (m :: ((b' :: C') ++ [z])) w) E' a' step w hw]
  exact base
theorem Rot_trans {P Q R : List Pt} (h1 : Rot P Q) (h2 : Rot Q R) : Rot P R := by
  obtain ⟨A, B, rfl, rfl⟩ := h1
  obtain ⟨C, D, e, rfl⟩ := h2
  rcases List.append_eq_append_iff.1 e with ⟨F, h1, h2⟩ | ⟨F, h1, h2⟩
  · subst h1 h2
    exact ⟨F, D ++ B, by simp, by simp⟩
  · subst h1 h2
    exact ⟨A ++ C, F, by simp, by simp⟩
/-- an ear that is good: what is left is outside of it -/
structure Good (P : List Pt) (v : Pt) (L : List Pt) (a b : Pt) : Prop where
  rot : Rot P (v :: L)
  seen : Seen v L a b
  empty : Empty v L a b
  out : cw L v = 0
/-- an ear of a part is an ear of the whole -/
theorem lift {P C E : List Pt} {m z : Pt} (hP : Simp P) (hr : Rot P (m :: (C ++ z :: E))) (d : Diag P m z)
    (c1 : ∀ w ∈ C, cw (m :: z :: E) w = 0) (c2 : ∀ w ∈ E, cw (m :: (C ++ [z])) w = 0)
    {v a b : Pt} {K : List Pt} (g : Good (m :: z :: E) v K a b) (vm : v ≠ m) (vz : v ≠ z) :
    v ∈ E ∧ ∃ K', Good P v K' a b := by
  obtain ⟨X, Y, e1, e2⟩ := g.rot
  cases Y with
  | nil =>
    simp only [List.nil_append, List.append_nil] at e1 e2
    rw [← e1] at e2
    simp only [List.cons.injEq] at e2
    exact absurd e2.1 vm
  | cons y Y =>
    simp only [List.cons_append, List.cons.injEq] at e2
    obtain ⟨rfl, rfl⟩ := e2
    cases X with
    | nil => simp only [List.nil_append, List.cons.injEq] at e1; exact absurd e1.1.symm vm
    | cons x X =>
      simp only [List.cons_append, List.cons.injEq] at e1
      obtain ⟨rfl, e1⟩ := e1
      cases X with
      | nil => simp only [List.nil_append, List.cons.injEq] at e1; exact absurd e1.1.symm vz
      | cons x' X =>
        simp only [List.cons_append, List.cons.injEq] at e1
        obtain ⟨rfl, rfl⟩ := e1
        -- now E = X ++ v :: Y and K = Y ++ m :: z :: X
        have hv : v ∈ X ++ v :: Y := by simp
        refine ⟨hv, Y ++ m :: (C ++ z :: X), ?_⟩
        have hrot : Rot P (v :: (Y ++ m :: (C ++ z :: X))) := by
          obtain ⟨A, B, h1, h2⟩ := hr
          have h3 : Rot (m :: (C ++ z :: (X ++ v :: Y))) (v :: (Y ++ m :: (C ++ z :: X))) :=
            ⟨m :: (C ++ z :: X), v :: Y, by simp, by simp⟩
          have h4 : Rot P (m :: (C ++ z :: (X ++ v :: Y))) := ⟨A, B, h1, h2⟩
          -- rotations compose: by the split of a rotated list
          exact Rot_trans h4 h3
        have hsimp := hrot.simp hP
        obtain ⟨M, hM⟩ := g.seen.head
        obtain ⟨N, hN⟩ := g.seen.last
        have hhead : ∃ M', Y ++ m :: (C ++ z :: X) = b :: M' := by
          cases Y with
          | nil => simp only [List.nil_append, List.cons.injEq] at hM; exact ⟨_, by rw [← hM.1]; rfl⟩
          | cons y Y => simp only [List.cons_append, List.cons.injEq] at hM; exact ⟨_, by rw [← hM.1]; rfl⟩
        have hlast : ∃ N', Y ++ m :: (C ++ z :: X) = N' ++ [a] := by
          rcases List.eq_nil_or_concat X with rfl | ⟨X', x, rfl⟩
          · have e : (Y ++ [m]) ++ [z] = N ++ [a] := by rw [← hN]; simp
            have := (List.append_inj' e rfl).2
            simp only [List.cons.injEq, and_true] at this
            exact ⟨Y ++ m :: C, by rw [this]; simp⟩
          · have e : (Y ++ m :: z :: X') ++ [x] = N ++ [a] := by rw [← hN]; simp
            have := (List.append_inj' e rfl).2
            simp only [List.cons.injEq, and_true] at this
            exact ⟨Y ++ m :: (C ++ z :: X'), by rw [this]; simp⟩
        have seen' : Seen v (Y ++ m :: (C ++ z :: X)) a b := ⟨hsimp, hhead, hlast, g.seen.turn⟩
        have hab : a ∈ Y ++ m :: z :: X ∧ b ∈ Y ++ m :: z :: X := by
          constructor
          · rw [hN]; simp
          · rw [hM]; simp
        have hn := hsimp.nodup
        have disj : ∀ w ∈ C, w ∉ v :: (Y ++ m :: z :: X) := by
          intro w hw hw2
          have hp : (v :: (Y ++ m :: (C ++ z :: X))).Perm (C ++ v :: (Y ++ m :: z :: X)) := by
            have : (v :: (Y ++ m :: (C ++ z :: X))) = (v :: (Y ++ [m])) ++ (C ++ (z :: X)) := by simp
            rw [this]
            have h2 : C ++ v :: (Y ++ m :: z :: X) = C ++ ((v :: (Y ++ [m])) ++ (z :: X)) := by simp
            rw [h2, ← List.append_assoc, ← List.append_assoc]
            exact (List.perm_append_comm).append_right _
          rw [hp.nodup_iff, List.nodup_append] at hn
          exact hn.2.2 w hw w hw2 rfl
        obtain ⟨M', hM'⟩ := hhead
        obtain ⟨N', hN'⟩ := hlast
        have hce := ces_cons (v := v) hM' hN'
        have hq := g.seen.turn
        refine ⟨hrot, seen', ?_, ?_⟩
        · intro w hw wa wb hi
          by_cases hK : w ∈ Y ++ m :: z :: X
          · exact g.empty w hK wa wb hi
          · have hwC : w ∈ C := by
              simp only [List.mem_append, List.mem_cons] at hw hK
              grind
            have hwP : w ∈ v :: (Y ++ m :: (C ++ z :: X)) := List.mem_cons_of_mem _ hw
            have nv : w ≠ v := by rintro rfl; exact disj w hwC (by simp)
            have hr' : cr v b a ≠ 0 := by rw [cr_rot2]; exact hq
            have w1 : 0 < bc v b a w := by
              have := hi.1
              by_cases h0 : bc v b a w = 0
              · have on := On_side hr' h0 hi.2.1 hi.2.2
                rcases hsimp.vert ((hce (v, b)).2 (Or.inl rfl)) hwP on with h | h
                · exact absurd h nv
                · exact absurd h wb
              · grind
            have w3 : 0 < bc a v b w := by
              have := hi.2.2
              by_cases h0 : bc a v b w = 0
              · have on := On_side hq h0 hi.1 hi.2.1
                rcases hsimp.vert ((hce (a, v)).2 (Or.inr (Or.inr rfl))) hwP on with h | h
                · exact absurd h wa
                · exact absurd h nv
              · grind
            have zero : cw (v :: (Y ++ m :: z :: X)) w = 0 := by
              rw [← c1 w hwC]
              exact (g.rot.cw w).symm
            have sgn : sg (cr a v b) ≠ 0 := by unfold sg; grind
            have mi := mid_in hq
            by_cases hl : 3 ≤ (Y ++ m :: z :: X).length
            · have h1 := g.seen.const g.empty hl w1 hi.2.1 w3 mi.1 (Rat.le_of_lt mi.2.1) mi.2.2
              have h2 := cw_cons (v := v) hM hN (mid a v b)
              have h3 := g.seen.apex g.empty mi.1 mi.2.1 mi.2.2
              have h4 := triIn hq mi.1 mi.2.1 mi.2.2
              rw [h3, g.out, h4] at h2
              omega
            · have hY : Y = [] := by
                cases Y with
                | nil => rfl
                | cons y Y => simp at hl; omega
              have hX : X = [] := by
                cases X with
                | nil => rfl
                | cons y Y => simp at hl; omega
              subst hY hX
              simp only [List.nil_append] at hM hN
              obtain ⟨rfl, rfl⟩ : m = b ∧ M = [z] := ⟨(List.cons.inj hM).1, (List.cons.inj hM).2.symm⟩
              have e : [m] ++ [z] = N ++ [a] := by rw [← hN]; rfl
              have := (List.append_inj' e rfl).2
              simp only [List.cons.injEq, and_true] at this
              subst this
              by_cases w2 : 0 < bc m z v w
              · have h2 := cw_cons (v := v) (L := [m, z]) (a := z) (b := m) (M := [z]) (N := [m]) rfl rfl w
                have h4 := triIn hq w1 w2 w3
                have h5 : cw [m, z] w = 0 := by
                  show cc m z w + (cc z m w + 0) = 0
                  rw [cc_anti m z]; omega
                simp only [List.nil_append] at zero
                rw [h4, h5] at h2
                omega
              · have w20 : bc m z v w = 0 := by have := hi.2.1; grind
                have on : On m z w := by
                  have hq2 : cr m z v ≠ 0 := by rw [← cr_rot2]; exact hq
                  exact On_side hq2 w20 hi.2.2 hi.1
                obtain ⟨w', hw'⟩ := ces_out ((hrot.mem w).2 hwP)
                have := (d _ hw' w (On_left _ _) on).2
                rcases this with rfl | rfl
                · exact hK hab.2
                · exact hK hab.1
        · have h1 : cw (Y ++ m :: (C ++ z :: X)) v = cw (m :: (C ++ z :: (X ++ Y))) v := by
            rw [cw_rot]; simp
          have h2 : cw (Y ++ m :: z :: X) v = cw (m :: z :: (X ++ Y)) v := by
            rw [cw_rot]; simp
          have h3 := cw_chord m z C (X ++ Y) v
          have h4 := c2 v hv
          have h5 := g.out
          omega
end Geo
end
section
/- Every simple polygon has good ears, and an orientation. -/
namespace Geo
theorem seen_of {m : Pt} {L : List Pt} (h : Simp (m :: L)) (hm : ∀ w ∈ L, lex m w) : ∃ a b, Seen m L a b := by
  have hl := h.len
  have hn := h.nodup
  obtain ⟨b, M, hb⟩ : ∃ b M, L = b :: M := by
    cases L with
    | nil => simp at hl
    | cons b M => exact ⟨b, M, rfl⟩
  obtain ⟨N, a, ha⟩ : ∃ N a, L = N ++ [a] := by
    rcases List.eq_nil_or_concat L with rfl | ⟨N, a, e⟩
    · simp at hl
    · exact ⟨N, a, by rw [e]; simp⟩
  refine ⟨a, b, h, ⟨M, hb⟩, ⟨N, ha⟩, ?_⟩
  intro h0
  have hce := ces_cons (v := m) hb ha
  have ha' : a ∈ L := by rw [ha]; simp
  have hb' : b ∈ L := by rw [hb]; simp
  have nab : a ≠ b := by
    rintro rfl
    rw [List.nodup_cons] at hn
    cases N with
    | nil => rw [ha] at hl; simp at hl
    | cons c N =>
      rw [ha] at hb hn
      simp only [List.cons_append, List.cons.injEq] at hb
      obtain ⟨rfl, _⟩ := hb
      simp at hn
  have nam : a ≠ m := by rintro rfl; rw [List.nodup_cons] at hn; exact hn.1 ha'
  have nbm : b ≠ m := by rintro rfl; rw [List.nodup_cons] at hn; exact hn.1 hb'
  rcases On_ray (hm a ha') (hm b hb') h0 with o | o
  · rcases h.vert ((hce (a, m)).2 (Or.inr (Or.inr rfl))) (List.mem_cons_of_mem _ hb') (On_symm o) with r | r
    · exact nab r.symm
    · exact nbm r
  · rcases h.vert ((hce (m, b)).2 (Or.inl rfl)) (List.mem_cons_of_mem _ ha') o with r | r
    · exact nam r
    · exact nab r
theorem least_rot {P : List Pt} (h : Simp P) : ∃ m L a b, Rot P (m :: L) ∧ Seen m L a b ∧ ∀ w ∈ L, lex m w := by
  obtain ⟨m, hm, hm2⟩ := exists_least P (by have := h.len; rintro rfl; simp at this)
  obtain ⟨A, B, rfl⟩ := List.append_of_mem hm
  have hr : Rot (A ++ m :: B) (m :: (B ++ A)) := ⟨A, m :: B, rfl, rfl⟩
  have hs := hr.simp h
  have hl : ∀ w ∈ B ++ A, lex m w := by
    intro w hw
    apply hm2
    · exact (hr.mem w).2 (List.mem_cons_of_mem _ hw)
    · rintro rfl
      have := hs.nodup
      rw [List.nodup_cons] at this
      exact this.1 hw
  obtain ⟨a, b, s⟩ := seen_of hs hl
  exact ⟨m, B ++ A, a, b, hr, s, hl⟩
theorem Rot.seen_rev {m a b : Pt} {L : List Pt} (s : Seen m L a b) : Seen m L.reverse b a := by
  obtain ⟨M, hb⟩ := s.head
  obtain ⟨N, ha⟩ := s.last
  refine ⟨?_, ⟨N.reverse, by rw [ha]; simp⟩, ⟨M.reverse, by rw [hb]; simp⟩, ?_⟩
  · have h1 := s.simp.rev
    rw [List.reverse_cons] at h1
    exact h1.rot
  · have := s.turn
    have e : cr b m a = - cr a m b := by unfold cr; grind
    rw [e]; grind
theorem Diag_rot {P Q : List Pt} (h : Rot P Q) {m z : Pt} (d : Diag P m z) : Diag Q m z :=
  fun e he => d e ((h.ces e).2 he)
theorem Diag_rev {P : List Pt} {m z : Pt} (d : Diag P m z) : Diag P.reverse m z := by
  intro e he x hx hy
  have := d _ ((ces_rev P e).1 he) x (On_symm hx) hy
  exact ⟨this.1.symm, this.2⟩
/-- the ear theorem: apart from any side there is a good ear -/
theorem ears : ∀ (n : Nat) (P : List Pt), P.length = n → Simp P → ∀ x y, (x, y) ∈ ces P →
    ∃ v L a b, Good P v L a b ∧ v ≠ x ∧ v ≠ y := by
  intro n
  induction n using Nat.strongRecOn with
  | ind n ih =>
    intro P hn hP x y hxy
    obtain ⟨m, L, a, b, hr, s, hm⟩ := least_rot hP
    have hlen := hr.length
    simp only [List.length_cons] at hlen
    have hl3 := hP.len
    by_cases h3 : n = 3
    · -- a triangle
      obtain ⟨R, hR⟩ := ces_cut (by omega) hxy
      have hRl := hR.length
      simp only [List.length_cons] at hRl
      obtain ⟨v, rfl⟩ : ∃ v, R = [v] := by
        match R, hRl with
        | [v], _ => exact ⟨v, rfl⟩
        | [], h => simp at h; omega
        | _ :: _ :: _, h => simp at h; omega
      have hR2 : Rot P (v :: [x, y]) := Rot_trans hR ⟨[x, y], [v], rfl, rfl⟩
      have hnd := hR2.nodup hP.nodup
      have tn : cr y v x ≠ 0 := by
        intro h0
        -- the triangle at its least vertex
        have hperm : cr a m b = cr y v x ∨ cr a m b = - cr y v x := by
          have hLl : L.length = 2 := by omega
          obtain ⟨M, hb⟩ := s.head
          obtain ⟨N, ha⟩ := s.last
          obtain ⟨c, rfl⟩ : ∃ c, M = [c] := by
            rw [hb] at hLl
            match M, hLl with
            | [c], _ => exact ⟨c, rfl⟩
            | [], h => simp at h
            | _ :: _ :: _, h => simp at h
          have hac : c = a := by
            rw [hb] at ha
            have e : [b] ++ [c] = N ++ [a] := by rw [← ha]; rfl
            have := (List.append_inj' e rfl).2
            simpa using this
          subst hac hb
          obtain ⟨A, B, e1, e2⟩ := Rot_trans hr.symm hR2
          match A, e1 with
          | [], e1 =>
            simp only [List.nil_append, List.append_nil] at e1 e2
            rw [← e1] at e2
            simp only [List.cons.injEq, and_true] at e2
            obtain ⟨rfl, rfl, rfl⟩ := e2
            exact Or.inl rfl
          | [A1], e1 =>
            simp only [List.cons_append, List.nil_append, List.cons.injEq] at e1
            obtain ⟨rfl, rfl⟩ := e1
            simp only [List.cons_append, List.nil_append, List.cons.injEq, and_true] at e2
            obtain ⟨rfl, rfl, rfl⟩ := e2
            left; unfold cr; grind
          | [A1, A2], e1 =>
            simp only [List.cons_append, List.nil_append, List.cons.injEq] at e1
            obtain ⟨rfl, rfl, rfl⟩ := e1
            simp only [List.cons_append, List.nil_append, List.cons.injEq, and_true] at e2
            obtain ⟨rfl, rfl, rfl⟩ := e2
            left; unfold cr; grind
          | [A1, A2, A3], e1 =>
            simp only [List.cons_append, List.nil_append, List.cons.injEq] at e1
            obtain ⟨rfl, rfl, rfl, rfl⟩ := e1
            simp only [List.nil_append, List.cons.injEq, and_true] at e2
            obtain ⟨rfl, rfl, rfl⟩ := e2
            left; rfl
          | A1 :: A2 :: A3 :: A4 :: A5, e1 => simp at e1
        have := s.turn
        grind
      refine ⟨v, [x, y], y, x, ⟨hR2, ⟨hR2.simp hP, ⟨[y], rfl⟩, ⟨[x], rfl⟩, tn⟩, ?_, ?_⟩, ?_, ?_⟩
      · intro w hw h1 h2
        simp only [List.mem_cons, List.not_mem_nil, or_false] at hw
        rcases hw with rfl | rfl
        · exact absurd rfl h2
        · exact absurd rfl h1
      · show cc x y v + (cc y x v + 0) = 0
        rw [cc_anti x y]; omega
      · rintro rfl; simp at hnd
      · rintro rfl; simp at hnd
    · have hl4 : 3 ≤ L.length := by omega
      obtain ⟨M, hb⟩ := s.head
      obtain ⟨N, ha⟩ := s.last
      have hce := ces_cons (v := m) hb ha
      have hnd := s.simp.nodup
      have hnd2 := hnd
      rw [List.nodup_cons] at hnd2
      by_cases em : Empty m L a b
      · by_cases hmx : m ≠ x ∧ m ≠ y
        · exact ⟨m, L, a, b, ⟨hr, s, em, cw_lex L hm⟩, hmx.1, hmx.2⟩
        · have hxy' := (hce _).1 ((hr.ces _).1 hxy)
          have hxs : (x = m ∨ x = a) ∧ (y = m ∨ y = b) := by
            rcases hxy' with h | h | h
            · simp only [Prod.mk.injEq] at h; exact ⟨Or.inl h.1, Or.inr h.2⟩
            · have := es_mem h
              exfalso
              apply hmx
              constructor
              · rintro rfl; exact hnd2.1 this.1
              · rintro rfl; exact hnd2.1 this.2
            · simp only [Prod.mk.injEq] at h; exact ⟨Or.inr h.1, Or.inl h.2⟩
          obtain ⟨v, K, a', b', g, va, vb⟩ := ih L.length (by omega) L rfl (s.cut em hl4) a b ((ces_L hb ha _).2 (Or.inr rfl))
          obtain ⟨X, Y, e1, e2⟩ := g.rot
          have hvL : v ∈ L := (g.rot.mem v).2 (by simp)
          have hvm : v ≠ m := by rintro rfl; exact hnd2.1 hvL
          -- L = X ++ Y with Y = v :: Y'' ++ [a], X = b :: X'
          obtain ⟨X', hX⟩ : ∃ X', X = b :: X' := by
            cases X with
            | nil =>
              simp only [List.nil_append, List.append_nil] at e1 e2
              rw [← e1, hb] at e2
              simp only [List.cons.injEq] at e2
              exact absurd e2.1 vb
            | cons c X =>
              rw [hb] at e1
              simp only [List.cons_append, List.cons.injEq] at e1
              exact ⟨X, by rw [e1.1]⟩
          obtain ⟨Y', hY⟩ : ∃ Y', Y = Y' ++ [a] := by
            rcases List.eq_nil_or_concat Y with rfl | ⟨Y', c, rfl⟩
            · simp only [List.nil_append, List.append_nil] at e1 e2
              rw [← e1, hb] at e2
              simp only [List.cons.injEq] at e2
              exact absurd e2.1 vb
            · have e : (X ++ Y') ++ [c] = N ++ [a] := by rw [← ha, e1]; simp
              have := (List.append_inj' e rfl).2
              simp only [List.cons.injEq, and_true] at this
              exact ⟨Y', by rw [this]; simp⟩
          obtain ⟨Y'', hY'⟩ : ∃ Y'', Y' = v :: Y'' := by
            cases Y' with
            | nil =>
              rw [hY] at e2
              simp only [List.nil_append, List.cons_append, List.cons.injEq] at e2
              exact absurd e2.1 va
            | cons c Y' =>
              rw [hY] at e2
              simp only [List.cons_append, List.cons.injEq] at e2
              exact ⟨Y', by rw [e2.1]⟩
          subst hX hY hY'
          simp only [List.cons_append, List.append_assoc, List.cons.injEq, true_and, List.nil_append] at e2
          subst e2
          have hrot : Rot P (v :: (Y'' ++ a :: m :: b :: X')) := by
            apply Rot_trans hr
            rw [e1]
            exact ⟨m :: b :: X', v :: Y'' ++ [a], by simp, by simp⟩
          have hsimp := hrot.simp hP
          have haL : a ∈ L := by rw [ha]; simp
          have hbL : b ∈ L := by rw [hb]; simp
          obtain ⟨M', hM'⟩ := g.seen.head
          obtain ⟨N', hN'⟩ := g.seen.last
          have hb'L : b' ∈ L := (g.rot.mem b').2 (by rw [hM']; simp)
          have ha'L : a' ∈ L := (g.rot.mem a').2 (by rw [hN']; simp)
          refine ⟨v, Y'' ++ a :: m :: b :: X', a', b', ⟨hrot, ⟨hsimp, ?_, ?_, g.seen.turn⟩, ?_, ?_⟩, ?_, ?_⟩
          · cases Y'' with
            | nil => simp only [List.nil_append, List.cons.injEq] at hM'; exact ⟨_, by rw [← hM'.1]; rfl⟩
            | cons c Y => simp only [List.cons_append, List.cons.injEq] at hM'; exact ⟨_, by rw [← hM'.1]; rfl⟩
          · rcases List.eq_nil_or_concat X' with rfl | ⟨X'', c, rfl⟩
            · have e : (Y'' ++ [a]) ++ [b] = N' ++ [a'] := by rw [← hN']; simp
              have := (List.append_inj' e rfl).2
              simp only [List.cons.injEq, and_true] at this
              exact ⟨Y'' ++ [a, m], by rw [this]; simp⟩
            · have e : (Y'' ++ a :: b :: X'') ++ [c] = N' ++ [a'] := by rw [← hN']; simp
              have := (List.append_inj' e rfl).2
              simp only [List.cons.injEq, and_true] at this
              exact ⟨Y'' ++ a :: m :: b :: X'', by rw [this]; simp⟩
          · intro w hw h1 h2
            by_cases hwm : w = m
            · subst hwm
              exact notInT_lex g.seen.turn (hm _ ha'L) (hm _ hvL) (hm _ hb'L)
            · apply g.empty w _ h1 h2
              simp only [List.mem_append, List.mem_cons] at hw ⊢
              grind
          · have t1 : cw (Y'' ++ a :: m :: b :: X') v = cw (a :: m :: b :: (X' ++ Y'')) v := by rw [cw_rot]; simp
            have t2 : cw (Y'' ++ a :: b :: X') v = cw (a :: b :: (X' ++ Y'')) v := by rw [cw_rot]; simp
            have t3 := cw_chord a b [m] (X' ++ Y'') v
            have t4 := triOut s.turn (em v hvL va vb)
            have t5 := g.out
            simp only [List.cons_append, List.nil_append] at t3
            omega
          · rcases hxs.1 with rfl | rfl
            · exact hvm
            · exact va
          · rcases hxs.2 with rfl | rfl
            · exact hvm
            · exact vb
      · obtain ⟨z, hz, za, zb, d, z1, z2, z3⟩ := s.see em
        obtain ⟨C, E, hCE⟩ := List.append_of_mem hz
        subst hCE
        have hC : C ≠ [] := by
          rintro rfl
          simp only [List.nil_append, List.cons.injEq] at hb
          exact zb hb.1
        have hE : E ≠ [] := by
          rintro rfl
          have e : C ++ [z] = N ++ [a] := ha
          have := (List.append_inj' e rfl).2
          simp only [List.cons.injEq, and_true] at this
          exact za this
        have c2 := s.chain hC hE d hm z1 z3
        have c1 : ∀ w ∈ C, cw (m :: z :: E) w = 0 := by
          have s' := Rot.seen_rev s
          have e : (C ++ z :: E).reverse = E.reverse ++ z :: C.reverse := by simp
          rw [e] at s'
          have d' : Diag (m :: (E.reverse ++ z :: C.reverse)) m z := by
            have := Diag_rev d
            rw [List.reverse_cons, e] at this
            exact Diag_rot ⟨_, [m], rfl, rfl⟩ this
          have := s'.chain (by simpa using hE) (by simpa using hC) d' (by
            intro w hw; apply hm
            rw [← e] at hw
            exact List.mem_reverse.1 hw) (by rw [bc_flip]; exact z3) (by rw [bc_flip]; exact z1)
          intro w hw
          have h1 := this w (by simpa using hw)
          have h2 : cw (m :: (E.reverse ++ [z])) w = cw ((m :: z :: E).reverse) w := by
            rw [show m :: (E.reverse ++ [z]) = [m] ++ (E.reverse ++ [z]) from rfl, cw_rot]
            simp
          rw [h2, cw_rev] at h1
          omega
        have hsz : C.length + E.length + 2 = n := by
          simp only [List.length_append, List.length_cons] at hlen; omega
        have hC1 : 1 ≤ C.length := List.length_pos_iff.2 hC
        have hE1 : 1 ≤ E.length := List.length_pos_iff.2 hE
        have cs := @ces_sub m z C E
        have s1 : Simp (m :: z :: E) := by
          refine s.simp.sub d (by simp; omega) ?_ ?_
          · have : (m :: z :: E).Sublist (m :: (C ++ z :: E)) := List.Sublist.cons_cons _ (List.sublist_append_right _ _)
            exact this.nodup hnd
          · intro e he
            have : ces (m :: z :: E) = (m, z) :: es (z :: (E ++ [m])) := rfl
            rw [this] at he
            rcases List.mem_cons.1 he with h | h
            · exact Or.inr h
            · exact Or.inl (cs.2.1 e h)
        have s2 : Simp (m :: (C ++ [z])) := by
          refine s.simp.sub d.symm (by simp; omega) ?_ ?_
          · have : (m :: (C ++ [z])).Sublist (m :: (C ++ z :: E)) := by
              apply List.Sublist.cons_cons
              apply List.Sublist.append_left
              simp
            exact this.nodup hnd
          · intro e he
            rcases (ces_path m z C e).1 he with h | h
            · exact Or.inl (cs.1 e h)
            · exact Or.inr h
        have dP := Diag_rot hr.symm d
        rcases cs.2.2 _ ((hr.ces _).1 hxy) with h | h
        · obtain ⟨v, K, a', b', g, vm, vz⟩ := ih (m :: z :: E).length (by simp; omega) _ rfl s1 m z (by simp [ces])
          obtain ⟨hv, K', g'⟩ := lift hP hr dP c1 c2 g vm vz
          have hd : v ∉ m :: (C ++ [z]) := by
            intro hv2
            have e : m :: (C ++ z :: E) = (m :: (C ++ [z])) ++ E := by simp
            rw [e, List.nodup_append] at hnd
            exact hnd.2.2 v hv2 v hv rfl
          have := es_mem h
          exact ⟨v, K', a', b', g', by rintro rfl; exact hd this.1, by rintro rfl; exact hd this.2⟩
        · have hzm : (z, m) ∈ ces (z :: m :: C) := by simp [ces]
          have s2' : Simp (z :: m :: C) := by
            have : Simp ([z] ++ (m :: C)) := Simp.rot (A := m :: C) (B := [z]) (by simpa using s2)
            exact this
          obtain ⟨v, K, a', b', g, vz, vm⟩ := ih (z :: m :: C).length (by simp; omega) _ rfl s2' z m hzm
          have hr' : Rot P (z :: (E ++ m :: C)) := Rot_trans hr ⟨m :: C, z :: E, by simp, by simp⟩
          have c1' : ∀ w ∈ E, cw (z :: m :: C) w = 0 := by
            intro w hw
            rw [← c2 w hw, show z :: m :: C = [z] ++ (m :: C) from rfl, cw_rot]; rfl
          have c2' : ∀ w ∈ C, cw (z :: (E ++ [m])) w = 0 := by
            intro w hw
            rw [← c1 w hw, show z :: (E ++ [m]) = (z :: E) ++ [m] from rfl, cw_rot]; rfl
          obtain ⟨hv, K', g'⟩ := lift hP hr' dP.symm c1' c2' g vz vm
          have hd : v ∉ z :: (E ++ [m]) := by
            intro hv2
            have e : (m :: (C ++ z :: E)).Perm (C ++ z :: (E ++ [m])) := by
              have : m :: (C ++ z :: E) = [m] ++ (C ++ z :: E) := rfl
              rw [this]
              have : C ++ z :: (E ++ [m]) = (C ++ z :: E) ++ [m] := by simp
              rw [this]
              exact List.perm_append_comm
            rw [e.nodup_iff, List.nodup_append] at hnd
            exact hnd.2.2 v hv v hv2 rfl
          have := es_mem h
          exact ⟨v, K', a', b', g', by rintro rfl; exact hd this.1, by rintro rfl; exact hd this.2⟩
end Geo
end
section
/- A point off a polygon has room in every direction. A simple polygon winds about each point off it 0 times or s times, s being 1 or -1. -/
namespace Geo
theorem sep {u v x : Pt} (h : ¬ On u v x) : ∃ p q r : Rat, p * x.1 + q * x.2 + r < 0 ∧ ∀ y, On u v y → 0 ≤ p * y.1 + q * y.2 + r := by
  by_cases hc : cr u v x = 0
  · by_cases huv : u = v
    · subst huv
      have key : ∀ y, On u u y → y = u := by
        rintro y ⟨t, _, _, e⟩
        rw [e]; apply Prod.ext <;> simp only <;> grind
      by_cases h1 : x.1 < u.1
      · exact ⟨1, 0, -u.1, by grind, fun y hy => by rw [key y hy]; grind⟩
      by_cases h2 : u.1 < x.1
      · exact ⟨-1, 0, u.1, by grind, fun y hy => by rw [key y hy]; grind⟩
      by_cases h3 : x.2 < u.2
      · exact ⟨0, 1, -u.2, by grind, fun y hy => by rw [key y hy]; grind⟩
      by_cases h4 : u.2 < x.2
      · exact ⟨0, -1, u.2, by grind, fun y hy => by rw [key y hy]; grind⟩
      exact absurd ((Prod.ext (by grind) (by grind) : x = u) ▸ On_left u u) h
    · have hN : 0 < (v.1 - u.1) * (v.1 - u.1) + (v.2 - u.2) * (v.2 - u.2) := by
        by_cases a1 : v.1 - u.1 = 0
        · have a2 : v.2 - u.2 ≠ 0 := fun a2 => huv (Prod.ext (by grind) (by grind))
          rw [a1]
          rcases (by grind : v.2 - u.2 < 0 ∨ 0 < v.2 - u.2) with g | g
          · have := Rat.mul_pos (show 0 < -(v.2 - u.2) by grind) (show 0 < -(v.2 - u.2) by grind); grind
          · have := Rat.mul_pos g g; grind
        · have q2 : 0 ≤ (v.2 - u.2) * (v.2 - u.2) := by
            by_cases g : 0 ≤ v.2 - u.2
            · exact Rat.mul_nonneg g g
            · have := Rat.mul_nonneg (show 0 ≤ -(v.2 - u.2) by grind) (show 0 ≤ -(v.2 - u.2) by grind); grind
          rcases (by grind : v.1 - u.1 < 0 ∨ 0 < v.1 - u.1) with g | g
          · have := Rat.mul_pos (show 0 < -(v.1 - u.1) by grind) (show 0 < -(v.1 - u.1) by grind); grind
          · have := Rat.mul_pos g g; grind
      have fy : ∀ y, On u v y → ∃ t : Rat, 0 ≤ t ∧ t ≤ 1 ∧ (y.1 - u.1) * (v.1 - u.1) + (y.2 - u.2) * (v.2 - u.2) = t * ((v.1 - u.1) * (v.1 - u.1) + (v.2 - u.2) * (v.2 - u.2)) := by
        rintro y ⟨t, t0, t1, e⟩
        refine ⟨t, t0, t1, ?_⟩
        rw [e]; simp only; grind
      by_cases g1 : (x.1 - u.1) * (v.1 - u.1) + (x.2 - u.2) * (v.2 - u.2) < 0
      · refine ⟨v.1 - u.1, v.2 - u.2, -(u.1 * (v.1 - u.1) + u.2 * (v.2 - u.2)), by grind, fun y hy => ?_⟩
        obtain ⟨t, t0, t1, e⟩ := fy y hy
        have := Rat.mul_nonneg t0 (Rat.le_of_lt hN)
        grind
      by_cases g2 : (v.1 - u.1) * (v.1 - u.1) + (v.2 - u.2) * (v.2 - u.2) < (x.1 - u.1) * (v.1 - u.1) + (x.2 - u.2) * (v.2 - u.2)
      · refine ⟨-(v.1 - u.1), -(v.2 - u.2), u.1 * (v.1 - u.1) + u.2 * (v.2 - u.2) + ((v.1 - u.1) * (v.1 - u.1) + (v.2 - u.2) * (v.2 - u.2)), by grind, fun y hy => ?_⟩
        obtain ⟨t, t0, t1, e⟩ := fy y hy
        have := Rat.mul_nonneg (show 0 ≤ 1 - t by grind) (Rat.le_of_lt hN)
        grind
      exfalso
      apply h
      have f0 : 0 ≤ (x.1 - u.1) * (v.1 - u.1) + (x.2 - u.2) * (v.2 - u.2) := by grind
      have f1 : (x.1 - u.1) * (v.1 - u.1) + (x.2 - u.2) * (v.2 - u.2) ≤ (v.1 - u.1) * (v.1 - u.1) + (v.2 - u.2) * (v.2 - u.2) := by grind
      have n0 : (v.1 - u.1) * (v.1 - u.1) + (v.2 - u.2) * (v.2 - u.2) ≠ 0 := by grind
      have z1 : (x.1 - u.1) * ((v.1 - u.1) * (v.1 - u.1) + (v.2 - u.2) * (v.2 - u.2)) = (v.1 - u.1) * ((x.1 - u.1) * (v.1 - u.1) + (x.2 - u.2) * (v.2 - u.2)) := by unfold cr at hc; grind
      have z2 : (x.2 - u.2) * ((v.1 - u.1) * (v.1 - u.1) + (v.2 - u.2) * (v.2 - u.2)) = (v.2 - u.2) * ((x.1 - u.1) * (v.1 - u.1) + (x.2 - u.2) * (v.2 - u.2)) := by unfold cr at hc; grind
      refine ⟨_, div_nn hN f0, div_le1 hN f1, ?_⟩
      clear hc h g1 g2 fy huv
      generalize (v.1 - u.1) * (v.1 - u.1) + (v.2 - u.2) * (v.2 - u.2) = N at *
      generalize (x.1 - u.1) * (v.1 - u.1) + (x.2 - u.2) * (v.2 - u.2) = f at *
      apply Prod.ext
      · simp only; grind
      · simp only; grind
  · have key : ∀ y, On u v y → cr u v y = 0 := fun y hy => On_cr hy
    by_cases g : cr u v x < 0
    · refine ⟨-(v.2 - u.2), v.1 - u.1, -((v.1 - u.1) * u.2) + (v.2 - u.2) * u.1, by unfold cr at g; grind, fun y hy => ?_⟩
      have := key y hy
      unfold cr at this; grind
    · refine ⟨v.2 - u.2, -(v.1 - u.1), (v.1 - u.1) * u.2 - (v.2 - u.2) * u.1, by unfold cr at g hc; grind, fun y hy => ?_⟩
      have := key y hy
      unfold cr at this; grind
theorem room_lin {c g : Rat} (h : c < 0) : ∃ ε : Rat, 0 < ε ∧ ∀ t, 0 ≤ t → t ≤ ε → c + t * g < 0 := by
  by_cases hg : g ≤ 0
  · refine ⟨1, by grind, fun t t0 _ => ?_⟩
    have := Rat.mul_nonneg t0 (show 0 ≤ -g by grind)
    grind
  · have hg' : 0 < g := by grind
    have hp : 0 < -c / 2 := by grind
    refine ⟨(-c / 2) / g, div_pos hg' hp, fun t t0 t1 => ?_⟩
    have e : (-c / 2) / g * g = -c / 2 := by grind
    have := Rat.mul_nonneg (show 0 ≤ (-c / 2) / g - t by grind) (Rat.le_of_lt hg')
    grind
theorem room1 {u v x : Pt} (h : ¬ On u v x) (d : Pt) : ∃ ε : Rat, 0 < ε ∧ ∀ t, 0 ≤ t → t ≤ ε → ¬ On u v (x.1 + t * d.1, x.2 + t * d.2) := by
  obtain ⟨p, q, r, h1, h2⟩ := sep h
  obtain ⟨ε, e0, he⟩ := room_lin (c := p * x.1 + q * x.2 + r) (g := p * d.1 + q * d.2) h1
  refine ⟨ε, e0, fun t t0 t1 ho => ?_⟩
  have a := he t t0 t1
  have b := h2 _ ho
  simp only at b
  grind
theorem room_list (l : List (Pt × Pt)) (x d : Pt) (h : ∀ e ∈ l, ¬ On e.1 e.2 x) : ∃ ε : Rat, 0 < ε ∧ ∀ t, 0 ≤ t → t ≤ ε → ∀ e ∈ l, ¬ On e.1 e.2 (x.1 + t * d.1, x.2 + t * d.2) := by
  induction l with
  | nil => exact ⟨1, by grind, fun _ _ _ e he => by simp at he⟩
  | cons a l ih =>
    obtain ⟨ε1, p1, h1⟩ := ih (fun e he => h e (List.mem_cons_of_mem _ he))
    obtain ⟨ε2, p2, h2⟩ := room1 (h a (List.mem_cons_self ..)) d
    by_cases hle : ε1 ≤ ε2
    · refine ⟨ε1, p1, fun t t0 t1 e he => ?_⟩
      rcases List.mem_cons.1 he with rfl | he
      · exact h2 t t0 (by grind)
      · exact h1 t t0 t1 e he
    · refine ⟨ε2, p2, fun t t0 t1 e he => ?_⟩
      rcases List.mem_cons.1 he with rfl | he
      · exact h2 t t0 t1
      · exact h1 t t0 (by grind) e he
theorem room {P : List Pt} {x : Pt} (h : Off P x) (d : Pt) : ∃ ε : Rat, 0 < ε ∧ ∀ t, 0 ≤ t → t ≤ ε → Off P (x.1 + t * d.1, x.2 + t * d.2) := room_list (ces P) x d h
/-- along what is off, the count stays -/
theorem room_cw {P : List Pt} {x d : Pt} {ε : Rat} (h : ∀ t, 0 ≤ t → t ≤ ε → Off P (x.1 + t * d.1, x.2 + t * d.2)) (e0 : 0 ≤ ε) : cw P (x.1 + ε * d.1, x.2 + ε * d.2) = cw P x := by
  apply cw_move
  rintro e he y ⟨t, t0, t1, hy⟩ ho
  have e : y = (x.1 + (t * ε) * d.1, x.2 + (t * ε) * d.2) := by rw [hy]; apply Prod.ext <;> simp only <;> grind
  have p1 := Rat.mul_nonneg t0 e0
  have p2 := Rat.mul_nonneg (show 0 ≤ 1 - t by grind) e0
  rw [e] at ho
  exact h (t * ε) p1 (by grind) _ he ho
end Geo
end
section
/- A simple polygon winds about each point off it 0 times or s times, s being 1 or -1. -/
namespace Geo
theorem Rot.off {P Q : List Pt} (h : Rot P Q) {q : Pt} (o : Off P q) : Off Q q := fun e he => o e ((h.ces e).2 he)
/-- in the ear: the count is the ear's sign -/
theorem Good.inner {P L : List Pt} {v a b : Pt} (g : Good P v L a b) (hl : 3 ≤ L.length) {q : Pt}
    (q1 : 0 < bc v b a q) (q2 : 0 ≤ bc b a v q) (q3 : 0 < bc a v b q) : cw P q = sg (cr a v b) := by
  obtain ⟨M, hb⟩ := g.seen.head
  obtain ⟨N, ha⟩ := g.seen.last
  obtain ⟨m1, m2, m3⟩ := mid_in g.seen.turn
  rw [g.rot.cw, g.seen.const g.empty hl m1 (Rat.le_of_lt m2) m3 q1 q2 q3, cw_cons hb ha, g.seen.apex g.empty m1 m2 m3, g.out, triIn g.seen.turn m1 m2 m3]
  omega
/-- outside of the ear: the count is that of what is left -/
theorem Good.outer {P L : List Pt} {v a b : Pt} (g : Good P v L a b) {q : Pt} (h : ¬ InT a v b q) : cw P q = cw L q := by
  obtain ⟨M, hb⟩ := g.seen.head
  obtain ⟨N, ha⟩ := g.seen.last
  rw [g.rot.cw, cw_cons hb ha, triOut g.seen.turn h]
  omega
theorem On_InT {a v b q : Pt} (h : cr a v b ≠ 0) (ho : On a b q) : InT a v b q := by
  obtain ⟨t, t0, t1, e⟩ := ho
  have hr1 : cr v b a ≠ 0 := by rw [cr_rot2]; exact h
  have e1 := bc_aff v b a e
  have e2 := bc_aff b a v e
  have e3 := bc_aff a v b e
  rw [bc_b hr1, bc_v] at e1
  rw [bc_v, bc_a] at e2
  rw [bc_a, bc_b h] at e3
  exact ⟨by grind, by grind, by grind⟩
/-- off the polygon and in the ear's triangle: strictly within its two sides -/
theorem Good.within {P L : List Pt} {v a b : Pt} (g : Good P v L a b) {q : Pt} (o : Off P q) (h : InT a v b q) : 0 < bc v b a q ∧ 0 ≤ bc b a v q ∧ 0 < bc a v b q := by
  obtain ⟨M, hb⟩ := g.seen.head
  obtain ⟨N, ha⟩ := g.seen.last
  have hr1 : cr v b a ≠ 0 := by rw [cr_rot2]; exact g.seen.turn
  have o2 := g.rot.off o
  obtain ⟨h1, h2, h3⟩ := h
  refine ⟨?_, h2, ?_⟩
  · rcases (by grind : bc v b a q = 0 ∨ 0 < bc v b a q) with e | e
    · exact absurd (On_side hr1 e h2 h3) (o2 (v, b) ((ces_cons hb ha _).2 (Or.inl rfl)))
    · exact e
  · rcases (by grind : bc a v b q = 0 ∨ 0 < bc a v b q) with e | e
    · exact absurd (On_side g.seen.turn e h1 h2) (o2 (a, v) ((ces_cons hb ha _).2 (Or.inr (Or.inr rfl))))
    · exact e
theorem Good.offL {P L : List Pt} {v a b : Pt} (g : Good P v L a b) {q : Pt} (o : Off P q) (h : ¬ InT a v b q) : Off L q := by
  obtain ⟨M, hb⟩ := g.seen.head
  obtain ⟨N, ha⟩ := g.seen.last
  intro e he ho
  rcases (ces_L hb ha e).1 he with h1 | rfl
  · exact g.rot.off o e ((ces_cons hb ha e).2 (Or.inr (Or.inl h1))) ho
  · exact h (On_InT g.seen.turn ho)
/-- a triangle's sides alone -/
theorem Good.tri {P L : List Pt} {v a b : Pt} (g : Good P v L a b) (hl : L.length = 2) {q : Pt} (o : Off P q) : (InT a v b q → cw P q = sg (cr a v b)) ∧ (¬ InT a v b q → cw P q = 0) := by
  obtain ⟨M, hb⟩ := g.seen.head
  obtain ⟨N, ha⟩ := g.seen.last
  obtain ⟨c, rfl⟩ : ∃ c, M = [c] := by
    rw [hb] at hl
    match M, hl with
    | [c], _ => exact ⟨c, rfl⟩
    | [], h => simp at h
    | _ :: _ :: _, h => simp at h
  have hc : c = a := by
    rw [hb] at ha
    have := congrArg List.getLast? ha
    simpa using this
  subst hc
  have e0 : cw L q = 0 := by
    rw [hb]
    show cc b c q + (cc c b q + 0) = 0
    rw [cc_anti]; omega
  have e1 := cw_cons (v := v) hb ha q
  rw [e0] at e1
  have hr2 : cr b c v ≠ 0 := by rw [← cr_rot2]; exact g.seen.turn
  constructor
  · intro h
    obtain ⟨p1, p2, p3⟩ := g.within o h
    have p2' : 0 < bc b c v q := by
      rcases (by grind : bc b c v q = 0 ∨ 0 < bc b c v q) with e | e
      · have hba : (b, c) ∈ ces (v :: L) := (ces_cons hb ha _).2 (Or.inr (Or.inl (by rw [hb]; simp [es])))
        exact absurd (On_side hr2 e (Rat.le_of_lt p3) (Rat.le_of_lt p1)) (g.rot.off o (b, c) hba)
      · exact e
    rw [g.rot.cw, e1, triIn g.seen.turn p1 p2' p3]; omega
  · intro h
    rw [g.rot.cw, e1, triOut g.seen.turn h]; omega
theorem sg_cases {d : Rat} (h : d ≠ 0) : sg d = 1 ∨ sg d = -1 := by
  unfold sg
  by_cases g : 0 < d
  · rw [if_pos g]; exact Or.inl rfl
  · rw [if_neg g, if_pos (by grind)]; exact Or.inr rfl
theorem some_side {P : List Pt} (h : Simp P) : ∃ x y, (x, y) ∈ ces P := by
  have := h.len
  match P, this with
  | x :: _, _ => obtain ⟨w', hw⟩ := ces_out (P := x :: _) (w := x) (by simp); exact ⟨x, w', hw⟩
/-- across the ear's third side there is a point off the polygon where the count is the ear's sign -/
theorem Good.across {P L : List Pt} {v a b : Pt} (g : Good P v L a b) (hP : Simp P) (hl : 3 ≤ L.length) : ∃ y, Off P y ∧ ¬ InT a v b y ∧ cw P y = sg (cr a v b) := by
  have hr1 : cr v b a ≠ 0 := by rw [cr_rot2]; exact g.seen.turn
  have hr2 : cr b a v ≠ 0 := by rw [← cr_rot2]; exact g.seen.turn
  have hx : ∀ {x : Pt} {t : Rat}, x = (a.1 + t * (b.1 - a.1), a.2 + t * (b.2 - a.2)) → bc v b a x = 1 - t ∧ bc b a v x = 0 ∧ bc a v b x = t := by
    intro x t e
    have e1 := bc_aff v b a e
    have e2 := bc_aff b a v e
    have e3 := bc_aff a v b e
    rw [bc_b hr1, bc_v] at e1
    rw [bc_v, bc_a] at e2
    rw [bc_a, bc_b g.seen.turn] at e3
    exact ⟨by grind, by grind, by grind⟩
  obtain ⟨x1, x2, x3⟩ := hx (x := (a.1 + (1/2) * (b.1 - a.1), a.2 + (1/2) * (b.2 - a.2))) (t := 1/2) rfl
  generalize (a.1 + (1/2) * (b.1 - a.1), a.2 + (1/2) * (b.2 - a.2)) = x at *
  have px1 : 0 < bc v b a x := by rw [x1]; grind
  have px3 : 0 < bc a v b x := by rw [x3]; grind
  have ox : Off P x := by
    intro e he ho
    exact g.seen.clear g.empty hl ((g.rot.ces e).1 he) ho px1 (by grind) px3
  obtain ⟨ε, e0, he⟩ := room ox (x.1 - v.1, x.2 - v.2)
  refine ⟨_, he ε (Rat.le_of_lt e0) (by grind), ?_, ?_⟩
  · rintro ⟨_, h2, _⟩
    have := bc_aff b a v (u := x) (w := (x.1 + (x.1 - v.1), x.2 + (x.2 - v.2))) (x := (x.1 + ε * (x.1 - v.1, x.2 - v.2).1, x.2 + ε * (x.1 - v.1, x.2 - v.2).2)) (s := ε) (by apply Prod.ext <;> simp only <;> grind)
    have k := bc_aff b a v (u := v) (w := x) (x := (x.1 + (x.1 - v.1), x.2 + (x.2 - v.2))) (s := 2) (by apply Prod.ext <;> simp only <;> grind)
    rw [bc_b hr2] at k
    rw [this, k, x2] at h2
    have := Rat.mul_pos e0 (show (0 : Rat) < 1 by grind)
    grind
  · rw [room_cw he (Rat.le_of_lt e0)]
    exact g.inner hl px1 (by grind) px3
end Geo
end
section
/- From the grid to the plane: what the program tests of whole numbers, told of points with rational coordinates. -/
namespace Geo
def cz (p : IP) : Pt := ((p.1 : Rat), (p.2 : Rat))
theorem cz_inj {p q : IP} : cz p = cz q ↔ p = q := by
  unfold cz
  constructor
  · intro h
    simp only [Prod.mk.injEq] at h
    exact Prod.ext (Rat.intCast_inj.1 h.1) (Rat.intCast_inj.1 h.2)
  · rintro rfl; rfl
theorem cz_cr (a b c : IP) : cr (cz a) (cz b) (cz c) = ((crI a b c : Int) : Rat) := by
  unfold cr crI cz
  simp only [Rat.intCast_sub, Rat.intCast_mul]
theorem cr_pos (a b c : IP) : 0 < cr (cz a) (cz b) (cz c) ↔ 0 < crI a b c := by rw [cz_cr]; exact_mod_cast Iff.rfl
theorem cr_neg (a b c : IP) : cr (cz a) (cz b) (cz c) < 0 ↔ crI a b c < 0 := by rw [cz_cr]; exact_mod_cast Iff.rfl
theorem cr_nil (a b c : IP) : cr (cz a) (cz b) (cz c) = 0 ↔ crI a b c = 0 := by rw [cz_cr]; exact_mod_cast Iff.rfl
theorem cz_le1 {a b : IP} : (cz a).1 ≤ (cz b).1 ↔ a.1 ≤ b.1 := Rat.intCast_le_intCast
theorem cz_le2 {a b : IP} : (cz a).2 ≤ (cz b).2 ↔ a.2 ≤ b.2 := Rat.intCast_le_intCast
theorem cz_lt2 {a b : IP} : (cz a).2 < (cz b).2 ↔ a.2 < b.2 := Rat.intCast_lt_intCast
theorem wsd_cc (a b q : IP) : cc (cz a) (cz b) (cz q) = wsd a b q := by
  unfold cc wsd
  simp only [cz_le2, cz_lt2, cr_pos, cr_neg]
  by_cases h1 : a.2 ≤ q.2 ∧ q.2 < b.2 ∧ 0 < crI a b q
  · rw [if_pos h1, if_pos ⟨h1.1, by omega, by omega⟩]
  · rw [if_neg h1, if_neg (show ¬ (a.2 ≤ q.2 ∧ b.2 > q.2 ∧ crI a b q > 0) from fun h => h1 ⟨h.1, by omega, by omega⟩)]
    by_cases h2 : b.2 ≤ q.2 ∧ q.2 < a.2 ∧ crI a b q < 0
    · rw [if_pos h2, if_pos (show a.2 > q.2 ∧ b.2 ≤ q.2 ∧ crI a b q < 0 from ⟨by omega, h2.1, h2.2.2⟩)]
    · rw [if_neg h2, if_neg (show ¬ (a.2 > q.2 ∧ b.2 ≤ q.2 ∧ crI a b q < 0) from fun h => h2 ⟨h.2.1, by omega, h.2.2⟩)]
/-- between, by coordinates -/
theorem On_coord {u v x : Pt} (hc : cr u v x = 0) (h1 : (u.1 ≤ x.1 ∧ x.1 ≤ v.1) ∨ (v.1 ≤ x.1 ∧ x.1 ≤ u.1)) (h2 : (u.2 ≤ x.2 ∧ x.2 ≤ v.2) ∨ (v.2 ≤ x.2 ∧ x.2 ≤ u.2)) : On u v x := by
  rcases (by grind : u.2 < v.2 ∨ v.2 < u.2 ∨ u.2 = v.2) with g | g | g
  · exact On_ofY hc g (by grind) (by grind)
  · exact On_symm (On_ofY (by rw [cr_anti, hc]; grind) g (by grind) (by grind))
  · have x2 : x.2 = u.2 := by grind
    rcases (by grind : u.1 < v.1 ∨ v.1 < u.1 ∨ u.1 = v.1) with k | k | k
    · have hp : 0 < v.1 - u.1 := by grind
      refine ⟨(x.1 - u.1) / (v.1 - u.1), div_nn hp (by grind), div_le1 hp (by grind), Prod.ext ?_ ?_⟩ <;> simp only <;> grind
    · have hp : 0 < u.1 - v.1 := by grind
      refine ⟨(u.1 - x.1) / (u.1 - v.1), div_nn hp (by grind), div_le1 hp (by grind), Prod.ext ?_ ?_⟩ <;> simp only <;> grind
    · have : x = u := Prod.ext (by grind) x2
      rw [this]; exact On_left u v
theorem On_X {u v x : Pt} (h : On u v x) : (u.1 ≤ x.1 ∧ x.1 ≤ v.1) ∨ (v.1 ≤ x.1 ∧ x.1 ≤ u.1) := by
  obtain ⟨t, t0, t1, e⟩ := h
  by_cases g : u.1 ≤ v.1
  · left
    have p1 := Rat.mul_nonneg t0 (show 0 ≤ v.1 - u.1 by grind)
    have p2 := Rat.mul_nonneg (show 0 ≤ 1 - t by grind) (show 0 ≤ v.1 - u.1 by grind)
    rw [e]; simp only; grind
  · right
    have p1 := Rat.mul_nonneg t0 (show 0 ≤ u.1 - v.1 by grind)
    have p2 := Rat.mul_nonneg (show 0 ≤ 1 - t by grind) (show 0 ≤ u.1 - v.1 by grind)
    rw [e]; simp only; grind
theorem bet_On (a b q : IP) : BetI a b q ↔ On (cz a) (cz b) (cz q) := by
  constructor
  · rintro ⟨h1, h2, h3⟩
    refine On_coord ((cr_nil a b q).2 h1) ?_ ?_
    · simp only [cz_le1]; omega
    · simp only [cz_le2]; omega
  · intro h
    have h1 := (cr_nil a b q).1 (On_cr h)
    have h2 := On_X h
    have h3 := On_Y h
    simp only [cz_le1] at h2
    simp only [cz_le2] at h3
    exact ⟨h1, by omega, by omega⟩
/-- a point of the line of two points, by its number along it -/
theorem on_num {a b c : Pt} (h : a ≠ b) (hc : cr a b c = 0) : ∃ t : Rat, c = (a.1 + t * (b.1 - a.1), a.2 + t * (b.2 - a.2)) := by
  by_cases g : b.1 - a.1 = 0
  · have k : b.2 - a.2 ≠ 0 := fun k => h (Prod.ext (by grind) (by grind))
    refine ⟨(c.2 - a.2) / (b.2 - a.2), Prod.ext ?_ ?_⟩ <;> unfold cr at hc <;> simp only <;> grind
  · refine ⟨(c.1 - a.1) / (b.1 - a.1), Prod.ext ?_ ?_⟩ <;> unfold cr at hc <;> simp only <;> grind
theorem num_inj {a b : Pt} (h : a ≠ b) {s t : Rat} (e : ((a.1 + s * (b.1 - a.1), a.2 + s * (b.2 - a.2)) : Pt) = (a.1 + t * (b.1 - a.1), a.2 + t * (b.2 - a.2))) : s = t := by
  simp only [Prod.mk.injEq] at e
  by_cases g : b.1 - a.1 = 0
  · have k : b.2 - a.2 ≠ 0 := fun k => h (Prod.ext (by grind) (by grind))
    grind
  · grind
/-- two segments on one line that have a point in common: an end of one lies on the other -/
theorem meet_line {a b c d x : Pt} (h : a ≠ b) (hc : cr a b c = 0) (hd : cr a b d = 0) (h1 : On a b x) (h2 : On c d x) : On a b c ∨ On a b d ∨ On c d a := by
  obtain ⟨s, es⟩ := on_num h hc
  obtain ⟨t, et⟩ := on_num h hd
  obtain ⟨r, r0, r1, er⟩ := h1
  obtain ⟨m, m0, m1, em⟩ := h2
  have e : r = (1 - m) * s + m * t := by
    apply num_inj h
    rw [← er, em, es, et]
    apply Prod.ext <;> simp only <;> grind
  by_cases s1 : 0 ≤ s ∧ s ≤ 1
  · exact Or.inl ⟨s, s1.1, s1.2, es⟩
  by_cases t1 : 0 ≤ t ∧ t ≤ 1
  · exact Or.inr (Or.inl ⟨t, t1.1, t1.2, et⟩)
  right; right
  have p1 := @Rat.mul_nonneg m
  have key : ∀ {s t m : Rat}, 0 ≤ m → m ≤ 1 → s < 0 → t < 0 → (1 - m) * s + m * t < 0 := by
    intro s t m m0 m1 hs ht
    have := On_pos m0 m1 (show 0 < -s by grind) (show 0 < -t by grind)
    grind
  rcases (by grind : s < 0 ∨ 1 < s) with g | g
  · rcases (by grind : t < 0 ∨ 1 < t) with k | k
    · have := key m0 m1 g k; grind
    · have hp : 0 < t - s := by grind
      refine ⟨-s / (t - s), div_nn hp (by grind), div_le1 hp (by grind), ?_⟩
      rw [es, et]; apply Prod.ext <;> simp only <;> grind
  · rcases (by grind : t < 0 ∨ 1 < t) with k | k
    · have hp : 0 < s - t := by grind
      refine ⟨s / (s - t), div_nn hp (by grind), div_le1 hp (by grind), ?_⟩
      rw [es, et]; apply Prod.ext <;> simp only <;> grind
    · have := On_pos m0 m1 (show 0 < s - 1 by grind) (show 0 < t - 1 by grind)
      grind
theorem cr_On_comb {a b c d x : Pt} {m : Rat} (e : x = (c.1 + m * (d.1 - c.1), c.2 + m * (d.2 - c.2))) : cr a b x = (1 - m) * cr a b c + m * cr a b d := by
  rw [e]; unfold cr; simp only; grind
/-- what meets -/
def MeetR (a b c d : Pt) : Prop := On a b c ∨ On a b d ∨ On c d a ∨ On c d b ∨ (((cr a b c < 0 ∧ 0 < cr a b d) ∨ (0 < cr a b c ∧ cr a b d < 0)) ∧ ((cr c d a < 0 ∧ 0 < cr c d b) ∨ (0 < cr c d a ∧ cr c d b < 0)))
theorem half {a b c d x : Pt} (h : a ≠ b) (h1 : On a b x) (h2 : On c d x) : On a b c ∨ On a b d ∨ On c d a ∨ ((cr a b c < 0 ∧ 0 < cr a b d) ∨ (0 < cr a b c ∧ cr a b d < 0)) := by
  obtain ⟨m, m0, m1, em⟩ := h2
  have e := cr_On_comb (a := a) (b := b) em
  rw [On_cr h1] at e
  by_cases hc : cr a b c = 0
  · by_cases hd : cr a b d = 0
    · rcases meet_line h hc hd h1 ⟨m, m0, m1, em⟩ with g | g | g
      · exact Or.inl g
      · exact Or.inr (Or.inl g)
      · exact Or.inr (Or.inr (Or.inl g))
    · have hm : m = 0 := by grind
      have : x = c := by rw [em, hm]; apply Prod.ext <;> simp only <;> grind
      exact Or.inl (this ▸ h1)
  · by_cases hd : cr a b d = 0
    · have hm : m = 1 := by grind
      have : x = d := by rw [em, hm]; apply Prod.ext <;> simp only <;> grind
      exact Or.inr (Or.inl (this ▸ h1))
    · right; right; right
      rcases (by grind : cr a b c < 0 ∨ 0 < cr a b c) with g | g
      · rcases (by grind : cr a b d < 0 ∨ 0 < cr a b d) with k | k
        · have := On_pos m0 m1 (show 0 < -cr a b c by grind) (show 0 < -cr a b d by grind); grind
        · exact Or.inl ⟨g, k⟩
      · rcases (by grind : cr a b d < 0 ∨ 0 < cr a b d) with k | k
        · exact Or.inr ⟨g, k⟩
        · have := On_pos m0 m1 g k; grind
theorem meets_of {a b c d x : Pt} (h : a ≠ b) (k : c ≠ d) (h1 : On a b x) (h2 : On c d x) : MeetR a b c d := by
  rcases half h h1 h2 with g | g | g | g
  · exact Or.inl g
  · exact Or.inr (Or.inl g)
  · exact Or.inr (Or.inr (Or.inl g))
  rcases half k h2 h1 with l | l | l | l
  · exact Or.inr (Or.inr (Or.inl l))
  · exact Or.inr (Or.inr (Or.inr (Or.inl l)))
  · exact Or.inl l
  exact Or.inr (Or.inr (Or.inr (Or.inr ⟨g, l⟩)))
theorem meetI_R (a b c d : IP) : MeetI a b c d ↔ MeetR (cz a) (cz b) (cz c) (cz d) := by
  unfold MeetI MeetR DivI
  simp only [bet_On, cr_pos, cr_neg]
/-- neighbours: a common point other than the common end would fold one over the other -/
theorem fold_of {a b c x : Pt} (h1 : On a b x) (h2 : On b c x) (hx : x ≠ b) : On a b c ∨ On b c a := by
  obtain ⟨t, t0, t1, e⟩ := On_symm h1
  obtain ⟨s, s0, s1, f⟩ := h2
  have tp : t ≠ 0 := by rintro rfl; apply hx; rw [e]; apply Prod.ext <;> simp only <;> grind
  have sp : s ≠ 0 := by rintro rfl; apply hx; rw [f]; apply Prod.ext <;> simp only <;> grind
  have tp' : 0 < t := by grind
  have sp' : 0 < s := by grind
  have k1 : t * (a.1 - b.1) = s * (c.1 - b.1) := by have := congrArg Prod.fst (e.symm.trans f); simp only at this; grind
  have k2 : t * (a.2 - b.2) = s * (c.2 - b.2) := by have := congrArg Prod.snd (e.symm.trans f); simp only at this; grind
  by_cases g : t ≤ s
  · left
    refine On_symm ⟨t / s, div_nn sp' t0, div_le1 sp' g, Prod.ext ?_ ?_⟩ <;> simp only <;> grind
  · right
    refine ⟨s / t, div_nn tp' s0, div_le1 tp' (by grind), Prod.ext ?_ ?_⟩ <;> simp only <;> grind
end Geo
end
section
/- A polygon that the program finds simple is simple in the plane; its winding is the one that is counted. -/
namespace Geo
def czL (P : List IP) : List Pt := P.map cz
theorem czL_len (P : List IP) : (czL P).length = P.length := by simp [czL]
theorem es_get (L : List Pt) (e : Pt × Pt) : e ∈ es L ↔ ∃ i, i + 1 < L.length ∧ e = (L.getD i (0, 0), L.getD (i + 1) (0, 0)) := by
  induction L with
  | nil => simp [es]
  | cons a l ih =>
    cases l with
    | nil => simp [es]
    | cons b l =>
      rw [es_two, List.mem_cons, ih]
      constructor
      · rintro (h | ⟨i, hi, h⟩)
        · exact ⟨0, by simp, h⟩
        · exact ⟨i + 1, by simp at hi ⊢; omega, h⟩
      · rintro ⟨i, hi, h⟩
        cases i with
        | zero => exact Or.inl h
        | succ i => exact Or.inr ⟨i, by simp at hi ⊢; omega, h⟩
theorem pw_get (L : List Pt) (q : Pt) : pw L q = sumN (fun i => cc (L.getD i (0, 0)) (L.getD (i + 1) (0, 0)) q) (L.length - 1) := by
  induction L with
  | nil => rfl
  | cons a l ih =>
    cases l with
    | nil => rfl
    | cons b l =>
      rw [pw_two, ih]
      show _ = sumN _ (l.length + 1)
      rw [sumN_head]
      rfl
theorem closed_get (P : List IP) (hP : P ≠ []) : ∃ a l, czL P = a :: l ∧ ∀ i, i ≤ P.length → (a :: (l ++ [a])).getD i (0, 0) = cz (nth P i) := by
  cases P with
  | nil => exact absurd rfl hP
  | cons p P =>
    refine ⟨cz p, P.map cz, rfl, fun i hi => ?_⟩
    have key : ∀ j, j < (p :: P).length → (cz p :: (P.map cz ++ [cz p])).getD j (0, 0) = cz ((p :: P).getD j (0, 0)) := by
      intro j hj
      rw [← List.cons_append]
      simp only [List.getD]
      rw [List.getElem?_append_left (by simpa using hj), ← List.map_cons, List.getElem?_map, List.getElem?_eq_getElem hj]
      rfl
    unfold nth
    by_cases h : i < (p :: P).length
    · rw [Nat.mod_eq_of_lt h]; exact key i h
    · have : i = (p :: P).length := by omega
      subst this
      rw [Nat.mod_self]
      have h2 : (cz p :: (P.map cz ++ [cz p])).getD (p :: P).length (0, 0) = cz p := by
        rw [← List.cons_append]
        simp only [List.getD]
        rw [List.getElem?_append_right (by simp)]
        simp
      rw [h2]; rfl
theorem ces_get {P : List IP} (hP : P ≠ []) (e : Pt × Pt) : e ∈ ces (czL P) ↔ ∃ i, i < P.length ∧ e = (cz (nth P i), cz (nth P (i + 1))) := by
  obtain ⟨a, l, h, k⟩ := closed_get P hP
  have hl : (a :: (l ++ [a])).length = P.length + 1 := by
    have := congrArg List.length h
    rw [czL_len] at this
    simp at this ⊢; omega
  rw [h]
  show e ∈ es (a :: (l ++ [a])) ↔ _
  rw [es_get, hl]
  constructor
  · rintro ⟨i, hi, he⟩; exact ⟨i, by omega, by rw [he, k i (by omega), k (i + 1) (by omega)]⟩
  · rintro ⟨i, hi, he⟩; exact ⟨i, by omega, by rw [he, k i (by omega), k (i + 1) (by omega)]⟩
theorem cw_cz {P : List IP} (hP : P ≠ []) (q : IP) : cw (czL P) (cz q) = wndI P q := by
  obtain ⟨a, l, h, k⟩ := closed_get P hP
  have hl : (a :: (l ++ [a])).length = P.length + 1 := by
    have := congrArg List.length h
    rw [czL_len] at this
    simp at this ⊢; omega
  rw [h]
  show pw (a :: (l ++ [a])) (cz q) = _
  rw [pw_get, hl]
  unfold wndI
  exact sumN_congr (fun i hi => by rw [k i (by omega), k (i + 1) (by omega), wsd_cc])
theorem off_cz {P : List IP} (hP : P ≠ []) {q : IP} : Off (czL P) (cz q) ↔ ¬ OnI P q := by
  unfold Off OnI
  constructor
  · rintro h ⟨i, hi, hb⟩
    exact h _ ((ces_get hP _).2 ⟨i, hi, rfl⟩) ((bet_On _ _ _).1 hb)
  · intro h e he ho
    obtain ⟨i, hi, rfl⟩ := (ces_get hP e).1 he
    exact h ⟨i, hi, (bet_On _ _ _).2 ho⟩
theorem nbr {a b c : IP} (h1 : ¬ BetI a b c) (h2 : ¬ BetI b c a) {x : Pt} (hx : On (cz a) (cz b) x) (hy : On (cz b) (cz c) x) : x = cz b := by
  by_cases h : x = cz b
  · exact h
  · rcases fold_of hx hy h with g | g
    · exact absurd ((bet_On _ _ _).2 g) h1
    · exact absurd ((bet_On _ _ _).2 g) h2
theorem simp_cz {P : List IP} (h3 : 3 ≤ P.length) (h : SimpI P) : Simp (czL P) where
  len := by rw [czL_len]; exact h3
  nodup := by
    unfold List.Nodup
    rw [List.pairwise_iff_getElem]
    intro i j hi hj hij e
    rw [czL_len] at hi hj
    have cg : ∀ t (ht : t < (czL P).length) (ht2 : t < P.length), (czL P)[t] = cz P[t] := fun t ht ht2 => by simp [czL]
    rw [cg i _ hi, cg j _ hj, cz_inj] at e
    have e2 : nth P i = nth P j := by
      unfold nth
      rw [Nat.mod_eq_of_lt hi, Nat.mod_eq_of_lt hj]
      simpa [List.getD, hi, hj] using e
    obtain ⟨g1, _, _, g4⟩ := h i hi
    by_cases c1 : j = i + 1
    · rw [c1] at e2; exact g1 e2
    · by_cases c2 : i = 0 ∧ j = P.length - 1
      · obtain ⟨k1, _⟩ := h j hj
        apply k1
        rw [← e2, c2.1, c2.2, show P.length - 1 + 1 = 0 + P.length by omega, nth_per]
      · apply g4 j (by omega) hj c2
        left
        rw [← e2]
        exact ⟨by unfold crI; grind, by omega, by omega⟩
  meet := by
    have hP : P ≠ [] := by rintro rfl; simp at h3
    have key : ∀ i j, i < j → j < P.length → ∀ x, On (cz (nth P i)) (cz (nth P (i + 1))) x → On (cz (nth P j)) (cz (nth P (j + 1))) x →
        (x = cz (nth P i) ∨ x = cz (nth P (i + 1))) ∧ (x = cz (nth P j) ∨ x = cz (nth P (j + 1))) := by
      intro i j hij hj x hx hy
      obtain ⟨g1, g2, g3, g4⟩ := h i (by omega)
      obtain ⟨k1, k2, k3, _⟩ := h j hj
      by_cases c1 : j = i + 1
      · subst c1
        have := nbr g2 g3 hx hy
        exact ⟨Or.inr this, Or.inl this⟩
      · by_cases c2 : i = 0 ∧ j = P.length - 1
        · have e0 : nth P (j + 1) = nth P i := by rw [c2.1, c2.2, show P.length - 1 + 1 = 0 + P.length by omega, nth_per]
          have e1 : nth P (j + 2) = nth P (i + 1) := by rw [c2.1, c2.2, show P.length - 1 + 2 = 0 + 1 + P.length by omega, nth_per]
          rw [e0, e1] at k2 k3
          rw [e0] at hy
          have := nbr k2 k3 hy hx
          rw [e0]
          exact ⟨Or.inl this, Or.inr this⟩
        · exact absurd ((meetI_R _ _ _ _).2 (meets_of (fun e => g1 (cz_inj.1 e)) (fun e => k1 (cz_inj.1 e)) hx hy)) (g4 j (by omega) hj c2)
    intro e he f hf hne x hx hy
    obtain ⟨i, hi, rfl⟩ := (ces_get hP e).1 he
    obtain ⟨j, hj, rfl⟩ := (ces_get hP f).1 hf
    rcases Nat.lt_trichotomy i j with g | g | g
    · exact key i j g hj x hx hy
    · subst g; exact absurd rfl hne
    · have := key j i g hi x hy hx
      exact ⟨this.2, this.1⟩
end Geo
end
section
/- What the reference's polygon functions compute. -/
namespace Pl
open Go Geo Pm
/-- twice the area, as a sum of cross products -/
def shoe (a b : IP) : Int := a.1 * b.2 - a.2 * b.1
theorem shoe_area (P : List IP) : sumN (fun i => shoe (nth P i) (nth P (i + 1))) P.length = areaI P := by
  have h := sum_cyc (P := P) (fun s => s.1 * s.2)
  unfold areaI
  rw [← sumN_neg]
  have h2 : sumN (fun i => shoe (nth P i) (nth P (i + 1))) P.length = sumN (fun i => -trap (nth P i) (nth P (i + 1)) + ((nth P (i + 1)).1 * (nth P (i + 1)).2 - (nth P i).1 * (nth P i).2)) P.length :=
    sumN_congr (fun i _ => by unfold shoe trap; grind)
  rw [h2, sumN_add, h, Int.add_zero]
end Pl
end
section
/- The normal form: what the program computes. -/
namespace Pl
open Go Geo Pm
theorem order_ok (a b : IP) : ∃ r, callT CG [.v tI] 18 [.val t0 a, .val t0 b] = some r ∧ (r < 0 ↔ lexP a b) := by
  refine ⟨if a = b then 0 else if lexP a b then -1 else 1, callT_of (polygon_order_st a b (r := [.val tI (if a = b then 0 else if lexP a b then -1 else 1)]) ?_) rfl, ?_⟩
  · by_cases h : a = b
    · refine pos ((eq_pair a b).2 h) ?_; rw [if_pos h]
    refine neg (fun x => h ((eq_pair a b).1 x)) ?_
    rw [if_neg h]
    by_cases h1 : a.1 < b.1
    · refine pos (dt h1) ?_; rw [if_pos (show lexP a b from Or.inl h1)]
    refine neg (df h1) ?_
    by_cases h2 : a.1 = b.1
    · refine pos (by simp [h2]) ?_
      by_cases h3 : a.2 < b.2
      · refine pos (dt h3) ?_; rw [if_pos (show lexP a b from Or.inr ⟨h2, h3⟩)]
      · refine neg (df h3) ?_; rw [if_neg (by unfold lexP; omega)]
    · refine neg (by simp [h2]) ?_; rw [if_neg (by unfold lexP; omega)]
  · by_cases h : a = b
    · subst h; simp [lexP_irr]
    · rw [if_neg h]; by_cases h2 : lexP a b
      · rw [if_pos h2]; simp [h2]
      · rw [if_neg h2]; simp [h2]
theorem rev_lp {l : List IP} (hl : l.length < 4611686018427387904) : ∀ (m i : Nat), l.length ≤ 2 * i + m → 2 * i ≤ l.length + 1 →
    slices_Reverse_api_Spot_api_Spot_lp1 CG l (i : Int) ((l.length : Int) - 1 - i) (swp l (0, 0) i) = some [.own t0 l.reverse]
  | 0, i, h, h2 => by
    refine slices_Reverse_api_Spot_api_Spot_lp1_st _ _ _ _ ?_
    refine neg (df (by omega)) ?_
    rw [swp_end _ _ _ (by omega)]
  | m + 1, i, h, h2 => by
    refine slices_Reverse_api_Spot_api_Spot_lp1_st _ _ _ _ ?_
    rw [List.length_set, swp_len]
    by_cases hc : 2 * i + 1 < l.length
    · refine pos (dt (by omega)) (pos (by omega) (pos (by omega) (pos (by omega) (pos (by omega) ?_))))
      rw [wrS (by omega), wr64 (by omega) (by omega), show (l.length : Int) - 1 - i = ((l.length - 1 - i : Nat) : Int) by omega, Int.toNat_natCast, Int.toNat_natCast, swp_step l _ i hc, show ((l.length - 1 - i : Nat) : Int) - 1 = (l.length : Int) - 1 - ((i + 1 : Nat) : Int) by omega]
      exact rev_lp hl m (i + 1) (by omega) (by omega)
    · refine neg (df (by omega)) ?_
      rw [swp_end _ _ _ (by omega)]
theorem reverse_ok {l : List IP} (hl : l.length < 4611686018427387904) : callT CG [.o t0] 16 [.own t0 l] = some l.reverse := by
  refine callT_of (slices_Reverse_api_Spot_api_Spot_st l (r := [.own t0 l.reverse]) ?_) rfl
  rw [wr64 (by omega) (by omega)]
  have := rev_lp hl l.length 0 (by omega) (by omega)
  rw [swp0] at this
  simpa using this
theorem min_lp {l : List IP} (hl : l.length < 4611686018427387904) : ∀ (m i : Nat), i + m = l.length → ∀ z x : IP, x ∈ l → (∀ j, j < i → ¬ lexP (l.getD j (0, 0)) x) →
    ∃ y, slices_MinFunc_api_Spot_api_Spot_lp1 CG l l (i : Int) z x = some [.val t0 y] ∧ y ∈ l ∧ ∀ t ∈ l, ¬ lexP t y
  | 0, i, h, z, x, hx, ha => by
    refine ⟨x, slices_MinFunc_api_Spot_api_Spot_lp1_st _ _ _ _ _ (neg (ige (by omega)) rfl), hx, fun t ht => ?_⟩
    obtain ⟨j, hj, rfl⟩ := List.mem_iff_getElem.1 ht
    have := ha j (by omega)
    rw [getD_eq hj] at this
    exact this
  | m + 1, i, h, z, x, hx, ha => by
    have hi : i < l.length := by omega
    obtain ⟨r, hr, hlt⟩ := order_ok (l.getD i (0, 0)) x
    by_cases hc : lexP (l.getD i (0, 0)) x
    · obtain ⟨y, hy, h2⟩ := min_lp hl m (i + 1) (by omega) z (l.getD i (0, 0)) (getD_in hi _) (fun j hj => by
        by_cases e : j = i
        · rw [e]; exact lexP_irr _
        · exact fun h' => ha j (by omega) (lexP_trans h' hc))
      refine ⟨y, slices_MinFunc_api_Spot_api_Spot_lp1_st _ _ _ _ _ ?_, h2⟩
      rw [wrS (by omega), Int.toNat_natCast]
      refine pos (ilt hi) (pos (ixn hi) (bnd hr (pos (dt (hlt.2 hc)) (pos (ixn hi) hy))))
    · obtain ⟨y, hy, h2⟩ := min_lp hl m (i + 1) (by omega) z x hx (fun j hj => by
        by_cases e : j = i
        · rw [e]; exact hc
        · exact ha j (by omega))
      refine ⟨y, slices_MinFunc_api_Spot_api_Spot_lp1_st _ _ _ _ _ ?_, h2⟩
      rw [wrS (by omega), Int.toNat_natCast]
      refine pos (ilt hi) (pos (ixn hi) (bnd hr (neg (df (fun h' => hc (hlt.1 h'))) hy)))
theorem minfunc_ok {l : List IP} (hl : l.length < 4611686018427387904) (hne : l ≠ []) : ∃ y, callT CG [.v t0] 17 [.val (.sl t0) l, .cloi 18 []] = some y ∧ y ∈ l ∧ ∀ t ∈ l, ¬ lexP t y := by
  have h0 := List.length_pos_iff.2 hne
  obtain ⟨y, hy, h2⟩ := min_lp hl (l.length - 1) 1 (by omega) (0, 0) (l.getD 0 (0, 0)) (getD_in h0 _) (fun j hj => by
    obtain rfl : j = 0 := by omega
    exact lexP_irr _)
  refine ⟨y, callT_of (slices_MinFunc_api_Spot_api_Spot_st l (r := [.val t0 y]) ?_) rfl, h2⟩
  exact neg (df (by omega)) (pos (by omega) hy)
theorem index_lp {l : List IP} (hl : l.length < 4611686018427387904) {y : IP} {k : Nat} (hk : k < l.length) (hy : l.getD k (0, 0) = y) (hf : ∀ j, j < k → l.getD j (0, 0) ≠ y) : ∀ (m i : Nat), i + m = k →
    slices_Index_api_Spot_api_Spot_lp1 CG l y l (l.length : Int) (i : Int) y = some [.val tI (k : Int)]
  | 0, i, h => by
    obtain rfl : i = k := by omega
    refine slices_Index_api_Spot_api_Spot_lp1_st _ _ _ _ _ _ ?_
    rw [Int.toNat_natCast]
    exact pos (ilt hk) (pos (ixn hk) (pos ((eq_pair _ _).2 hy.symm) rfl))
  | m + 1, i, h => by
    refine slices_Index_api_Spot_api_Spot_lp1_st _ _ _ _ _ _ ?_
    rw [Int.toNat_natCast, wrS (by omega)]
    exact pos (ilt (by omega)) (pos (ixn (by omega)) (neg (fun h' => hf i (by omega) ((eq_pair _ _).1 h').symm) (index_lp hl hk hy hf m (i + 1) (by omega))))
theorem index_ok {l : List IP} (hl : l.length < 4611686018427387904) {y : IP} (hy : y ∈ l) (hm : ∀ t ∈ l, ¬ lexP t y) : callT CG [.v tI] 19 [.val (.sl t0) l, .val t0 y] = some ((leastAt l : Nat) : Int) := by
  have hne : l ≠ [] := by rintro rfl; cases hy
  obtain ⟨h1, h2, h3⟩ := leastAt_spec hne
  have e : l.getD (leastAt l) (0, 0) = y := lexP_eq (hm _ (getD_in h1 _)) (h2 y hy)
  refine callT_of (slices_Index_api_Spot_api_Spot_st l y (r := [.val tI ((leastAt l : Nat) : Int)]) ?_) rfl
  exact index_lp hl h1 e (fun j hj h' => h3 j hj (by rw [e]; exact h')) (leastAt l) 0 (by omega)
/-- the vertices where the polygon turns -/
def turnsAt (P : List IP) (i : Nat) : Bool := crI (nth P (i + P.length - 1)) (nth P i) (nth P (i + 1)) != 0
def corn (P : List IP) : List IP := ((List.range P.length).filter (turnsAt P)).map (nth P)
def cornTo (P : List IP) (i : Nat) : List IP := ((List.range i).filter (turnsAt P)).map (nth P)
theorem cornTo_succ (P : List IP) (i : Nat) : cornTo P (i + 1) = cornTo P i ++ if turnsAt P i then [nth P i] else [] := by
  unfold cornTo
  rw [List.range_succ, List.filter_append, List.map_append]
  congr 1
  cases h : turnsAt P i <;> simp [List.filter, h]
theorem cornTo_len (P : List IP) (i : Nat) : (cornTo P i).length ≤ i := by
  unfold cornTo
  rw [List.length_map]
  exact Nat.le_trans (List.length_filter_le _ _) (by simp)
/-- turned counterclockwise, from its least vertex on -/
def nrm (P : List IP) : List IP := leastL (if areaI P < 0 then (corn P).reverse else corn P)
theorem fin_cut {l : List IP} (hl : l.length < 8796093022208) {k : Nat} (hk : k ≤ l.length) : ∀ {f : Option R}, f = (if (0 ≤ (k : Int) ∧ (k : Int) ≤ (l.length : Int) ∧ (l.length : Int) ≤ (l.length : Int) ∧ (l.length : Int) = (l.length : Int)) then (if (0 ≤ (k : Int) ∧ (k : Int) ≤ (l.length : Int)) then (if (List.length (List.drop (Int.toNat (k : Int)) (List.take (Int.toNat (l.length : Int)) l)) + List.length (List.take (Int.toNat (k : Int)) l) < 8796093022208) then (some [.val (.sl t0) ((List.drop (Int.toNat (k : Int)) (List.take (Int.toNat (l.length : Int)) l)) ++ (List.take (Int.toNat (k : Int)) l)), .val tI 0]) else none) else none) else none) → f = some [.val (.sl t0) (l.drop k ++ l.take k), .val tI 0] := by
  rintro f rfl
  refine pos ⟨by omega, by omega, by omega, rfl⟩ (pos ⟨by omega, by omega⟩ ?_)
  simp only [Int.toNat_natCast, List.take_length]
  exact pos (by rw [List.length_drop, List.length_take]; omega) rfl
theorem normal_lp {P : List IP} (hl : P.length ≤ 1000) (hb : InsI P) (hne : corn P ≠ []) : ∀ (m i : Nat), i + m = P.length →
    polygon_Normal_lp1 CG P P P (P.length : Int) (i : Int) (cornTo P i) = some [.val (.sl t0) (nrm P), .val tI 0]
  | 0, i, h => by
    obtain rfl : i = P.length := by omega
    refine polygon_Normal_lp1_st _ _ _ _ _ _ ?_
    rw [show cornTo P P.length = corn P from rfl]
    have hlen : (corn P).length ≤ P.length := cornTo_len P P.length
    refine neg (ige (by omega)) (bnd (area_ok hb (by omega)) ?_)
    unfold nrm
    by_cases ha : areaI P < 0
    · refine pos (dt ha) (bnd (reverse_ok (by omega)) ?_)
      have hr : (corn P).reverse ≠ [] := by simpa using hne
      obtain ⟨y, hy, h1, h2⟩ := minfunc_ok (l := (corn P).reverse) (by simp; omega) hr
      refine bnd hy (bnd (index_ok (by simp; omega) h1 h2) ?_)
      rw [if_pos ha]
      exact fin_cut (by simp; omega) (Nat.le_of_lt (leastAt_spec hr).1) rfl
    · refine neg (df ha) ?_
      obtain ⟨y, hy, h1, h2⟩ := minfunc_ok (l := corn P) (by omega) hne
      refine bnd hy (bnd (index_ok (by omega) h1 h2) ?_)
      rw [if_neg ha]
      exact fin_cut (by omega) (Nat.le_of_lt (leastAt_spec hne).1) rfl
  | m + 1, i, h => by
    have hi : i < P.length := by omega
    have hP : P ≠ [] := by rintro rfl; cases hi
    have h0 : 0 < P.length := by omega
    have ih := normal_lp hl hb hne m (i + 1) (by omega)
    rw [cornTo_succ] at ih
    have hlen := cornTo_len P i
    refine polygon_Normal_lp1_st _ _ _ _ _ _ ?_
    rw [prev_w h0 (by omega), wrS (by omega), tmod_nat]
    simp only [Int.toNat_natCast]
    rw [show P.getD ((i + P.length - 1) % P.length) (0, 0) = nth P (i + P.length - 1) from rfl, show P.getD ((i + 1) % P.length) (0, 0) = nth P (i + 1) from rfl, nth_getD hi]
    refine pos (ilt hi) (pos (ixn hi) (pos (by omega) (pos (ixn (Nat.mod_lt _ h0)) (pos (by omega) (pos (ixn (Nat.mod_lt _ h0)) (bnd (turn_ok (insP_of hb hP _) (insP_of hb hP _) (insP_of hb hP _)) ?_))))))
    by_cases hc : turnsAt P i
    · rw [if_pos hc] at ih
      refine pos hc (pos (by simp; omega) ih)
    · rw [if_neg hc, List.append_nil] at ih
      exact neg hc ih
theorem normal_ok {P : List IP} (hne : chk P = 0 → corn P ≠ []) : callT CG [.v (.sl t0), .v tI] 8 [.val (.sl t0) P] = some (if chk P = 0 then nrm P else [], chk P) := by
  refine callT_of (polygon_Normal_st P (r := [.val (.sl t0) (if chk P = 0 then nrm P else []), .val tI (chk P)]) ?_) rfl
  refine bnd (check_ok P) ?_
  by_cases h : chk P = 0
  · obtain ⟨h3, h40, hb, _⟩ := chk_in h
    refine neg (by simp [h]) ?_
    rw [if_pos h, h]
    exact normal_lp (by omega) hb (hne h) P.length 0 (by omega)
  · refine pos (by simp [h]) ?_; rw [if_neg h]
end Pl
end
section
/- A vertex in the middle of a straight piece may be left out: nothing changes. -/
namespace Geo
theorem inv_lt1 {t : Rat} (h : 1 < t) : 0 < 1 / t ∧ 1 / t < 1 ∧ (1 / t) * t = 1 := by
  have h0 : 0 < t := by grind
  have e : (1 / t) * t = 1 := by grind
  have p := div_pos (a := 1) h0 (by grind)
  refine ⟨p, ?_, e⟩
  by_cases hc : 1 / t < 1
  · exact hc
  · exfalso
    have h1 : 1 ≤ 1 / t := by grind
    have := Rat.mul_nonneg (show 0 ≤ 1 / t - 1 by grind) (show 0 ≤ t by grind)
    grind
/-- neither end folds over the other: the vertex lies between -/
theorem between_of {a v b : Pt} (hav : a ≠ v) (h : cr a v b = 0) (h1 : ¬ On a v b) (h2 : ¬ On v b a) : On a b v := by
  obtain ⟨t, e⟩ := on_num hav h
  by_cases t1 : 1 < t
  · obtain ⟨p, q, r⟩ := inv_lt1 t1
    refine ⟨1 / t, by grind, by grind, ?_⟩
    rw [e]
    apply Prod.ext <;> simp only <;> grind
  · by_cases t0 : 0 ≤ t
    · exact absurd ⟨t, t0, by grind, e⟩ h1
    · exfalso
      obtain ⟨p, q, r⟩ := inv_lt1 (t := 1 - t) (by grind)
      refine h2 ⟨1 / (1 - t), by grind, by grind, ?_⟩
      rw [e]
      apply Prod.ext <;> simp only <;> grind
/-- strictly between -/
theorem between_strict {a v b : Pt} (hav : a ≠ v) (hvb : v ≠ b) (h : On a b v) : ∃ t : Rat, 0 < t ∧ t < 1 ∧ v = (a.1 + t * (b.1 - a.1), a.2 + t * (b.2 - a.2)) := by
  obtain ⟨t, t0, t1, e⟩ := h
  refine ⟨t, ?_, ?_, e⟩
  · by_cases h : t = 0
    · subst h; exact absurd (by rw [e]; apply Prod.ext <;> simp only <;> grind) hav
    · grind
  · by_cases h : t = 1
    · subst h; exact absurd (by rw [e]; apply Prod.ext <;> simp only <;> grind) hvb
    · grind
theorem On_halves {a v b x : Pt} (hav : a ≠ v) (hvb : v ≠ b) (h : On a b v) : On a b x ↔ On a v x ∨ On v b x := by
  constructor
  · rintro ⟨s, s0, s1, e⟩
    obtain ⟨t, t0, t1, f⟩ := between_strict hav hvb h
    by_cases hst : s ≤ t
    · refine Or.inl ⟨s / t, div_nn t0 s0, div_le1 t0 hst, ?_⟩
      have : s / t * t = s := by grind
      rw [e, f]
      apply Prod.ext <;> simp only <;> grind
    · have p : 0 < 1 - t := by grind
      refine Or.inr ⟨(s - t) / (1 - t), div_nn p (by grind), div_le1 p (by grind), ?_⟩
      have : (s - t) / (1 - t) * (1 - t) = s - t := by grind
      rw [e, f]
      apply Prod.ext <;> simp only <;> grind
  · rintro (k | k)
    · exact On_symm (On_sub (On_symm h) (On_symm k))
    · exact On_sub h k
theorem cc_halves {a v b : Pt} (hav : a ≠ v) (hvb : v ≠ b) (h : On a b v) (q : Pt) : cc a v q + cc v b q = cc a b q := by
  obtain ⟨t, t0, t1, e⟩ := between_strict hav hvb h
  have c1 : cr a v q = t * cr a b q := by rw [e]; unfold cr; grind
  have c2 : cr v b q = (1 - t) * cr a b q := by rw [e]; unfold cr; grind
  have s1 : 0 < cr a v q ↔ 0 < cr a b q := by rw [c1]; exact mul_pos_iff t0
  have s2 : 0 < cr v b q ↔ 0 < cr a b q := by rw [c2]; exact mul_pos_iff (by grind)
  have n1 : cr a v q < 0 ↔ cr a b q < 0 := by
    have := mul_pos_iff (b := -cr a b q) t0
    rw [c1]; grind
  have n2 : cr v b q < 0 ↔ cr a b q < 0 := by
    have := mul_pos_iff (a := 1 - t) (b := -cr a b q) (by grind)
    rw [c2]; grind
  have y : v.2 = a.2 + t * (b.2 - a.2) := by rw [e]
  have y1 : a.2 < b.2 → a.2 < v.2 ∧ v.2 < b.2 := fun hl => by
    have p1 := Rat.mul_pos t0 (show 0 < b.2 - a.2 by grind)
    have p2 := Rat.mul_pos (show 0 < 1 - t by grind) (show 0 < b.2 - a.2 by grind)
    grind
  have y2 : b.2 < a.2 → b.2 < v.2 ∧ v.2 < a.2 := fun hl => by
    have p1 := Rat.mul_pos t0 (show 0 < a.2 - b.2 by grind)
    have p2 := Rat.mul_pos (show 0 < 1 - t by grind) (show 0 < a.2 - b.2 by grind)
    grind
  have y3 : a.2 = b.2 → v.2 = a.2 := fun hl => by rw [y, hl]; grind
  unfold cc
  simp only [s1, s2, n1, n2]
  generalize cr a b q = c at *
  clear c1 c2 s1 s2 n1 n2 y e h
  have tri : a.2 < b.2 ∨ a.2 = b.2 ∨ b.2 < a.2 := by grind
  rcases tri with hl | hl | hl
  · obtain ⟨k1, k2⟩ := y1 hl
    (repeat' split) <;> grind
  · have k := y3 hl
    (repeat' split) <;> grind
  · obtain ⟨k1, k2⟩ := y2 hl
    (repeat' split) <;> grind
end Geo
end
section
/- Leaving out a straight vertex of a simple polygon; twice the area of a closed path. -/
namespace Geo
theorem Simp.ends {v a b : Pt} {L M N : List Pt} (h : Simp (v :: L)) (hb : L = b :: M) (ha : L = N ++ [a]) : a ≠ v ∧ v ≠ b ∧ a ≠ b ∧ b ∈ L ∧ a ∈ L ∧ v ∉ L := by
  have hn := List.nodup_cons.1 h.nodup
  have hbm : b ∈ L := by rw [hb]; simp
  have ham : a ∈ L := by rw [ha]; simp
  refine ⟨fun e => hn.1 (e ▸ ham), fun e => hn.1 (e ▸ hbm), fun e => ?_, hbm, ham, hn.1⟩
  subst e
  have hl := h.len
  have h2 := hn.2
  rw [hb] at h2 ha
  cases N with
  | nil => simp at ha; subst ha; rw [hb] at hl; simp at hl
  | cons c N =>
    rw [List.cons_append, List.cons.injEq] at ha
    rw [ha.2] at h2
    exact (List.nodup_cons.1 h2).1 (by simp)
/-- a straight vertex lies between its neighbours -/
theorem Simp.mid {v a b : Pt} {L M N : List Pt} (h : Simp (v :: L)) (hb : L = b :: M) (ha : L = N ++ [a]) (h0 : cr a v b = 0) : On a b v ∧ 3 ≤ L.length := by
  obtain ⟨h1, h2, h3, h4, h5, h6⟩ := h.ends hb ha
  have hce := ces_cons (v := v) hb ha
  have hm : On a b v := by
    refine between_of h1 h0 (fun ho => ?_) (fun ho => ?_)
    · rcases h.vert ((hce (a, v)).2 (Or.inr (Or.inr rfl))) (List.mem_cons_of_mem _ h4) ho with e | e
      · exact h3 e.symm
      · exact h2 e.symm
    · rcases h.vert ((hce (v, b)).2 (Or.inl rfl)) (List.mem_cons_of_mem _ h5) ho with e | e
      · exact h1 e
      · exact h3 e
  refine ⟨hm, ?_⟩
  have hl := h.len
  simp only [List.length_cons] at hl
  by_cases h7 : L.length = 2
  · exfalso
    have hL : L = [b, a] := by
      rw [hb] at h7 ha ⊢
      match M, h7 with
      | [c], _ =>
        cases N with
        | nil => simp at ha
        | cons d N =>
          rw [List.cons_append, List.cons.injEq] at ha
          cases N with
          | nil => simp at ha; rw [ha.2]
          | cons _ _ => have := congrArg List.length ha.2; simp at this
    have hs : (b, a) ∈ ces (v :: L) := (hce (b, a)).2 (Or.inr (Or.inl (by rw [hL]; simp [es])))
    rcases h.vert hs List.mem_cons_self (On_symm hm) with e | e
    · exact h2 e
    · exact h1 e.symm
  · omega
theorem Simp.skip {v a b : Pt} {L M N : List Pt} (h : Simp (v :: L)) (hb : L = b :: M) (ha : L = N ++ [a]) (h0 : cr a v b = 0) : Simp L where
  len := (h.mid hb ha h0).2
  nodup := (List.nodup_cons.1 h.nodup).2
  meet := by
    obtain ⟨h1, h2, h3, h4, h5, h6⟩ := h.ends hb ha
    obtain ⟨hm, _⟩ := h.mid hb ha h0
    have hce := ces_cons (v := v) hb ha
    have key : ∀ f ∈ es L, ∀ x, On a b x → On f.1 f.2 x → (x = a ∨ x = b) ∧ (x = f.1 ∨ x = f.2) := by
      intro f hf x hx hy
      have hfm := es_mem hf
      rcases (On_halves h1 h2 hm).1 hx with hx | hx
      · have := h.meet (a, v) ((hce _).2 (Or.inr (Or.inr rfl))) f ((hce _).2 (Or.inr (Or.inl hf))) (fun e => h6 (by rw [← e] at hfm; exact hfm.2)) x hx hy
        refine ⟨?_, this.2⟩
        rcases this.1 with e | e
        · exact Or.inl e
        · exfalso
          have e : x = v := e
          rcases this.2 with k | k
          · exact h6 (by rw [← e, k]; exact hfm.1)
          · exact h6 (by rw [← e, k]; exact hfm.2)
      · have := h.meet (v, b) ((hce _).2 (Or.inl rfl)) f ((hce _).2 (Or.inr (Or.inl hf))) (fun e => h6 (by rw [← e] at hfm; exact hfm.1)) x hx hy
        refine ⟨?_, this.2⟩
        rcases this.1 with e | e
        · exfalso
          have e : x = v := e
          rcases this.2 with k | k
          · exact h6 (by rw [← e, k]; exact hfm.1)
          · exact h6 (by rw [← e, k]; exact hfm.2)
        · exact Or.inr e
    intro e he f hf hne x hx hy
    rcases (ces_L hb ha e).1 he with he | he <;> rcases (ces_L hb ha f).1 hf with hf | hf
    · exact h.meet e ((hce _).2 (Or.inr (Or.inl he))) f ((hce _).2 (Or.inr (Or.inl hf))) hne x hx hy
    · subst hf; exact (key e he x hy hx).symm
    · subst he; exact key f hf x hx hy
    · exact absurd (he.trans hf.symm) hne
theorem Simp.skip_cw {v a b : Pt} {L M N : List Pt} (h : Simp (v :: L)) (hb : L = b :: M) (ha : L = N ++ [a]) (h0 : cr a v b = 0) (q : Pt) : cw (v :: L) q = cw L q := by
  obtain ⟨h1, h2, _⟩ := h.ends hb ha
  have hm := (h.mid hb ha h0).1
  have e : cw [a, v, b] q = cc a v q + (cc v b q + (cc b a q + 0)) := rfl
  rw [cw_cons hb ha, e, cc_anti a b, ← cc_halves h1 h2 hm q]
  omega
/-- on a side -/
def OnP (P : List Pt) (q : Pt) : Prop := ∃ e ∈ ces P, On e.1 e.2 q
theorem off_iff {P : List Pt} {q : Pt} : Off P q ↔ ¬ OnP P q := ⟨fun h ⟨e, he, ho⟩ => h e he ho, fun h e he ho => h ⟨e, he, ho⟩⟩
theorem Simp.skip_on {v a b : Pt} {L M N : List Pt} (h : Simp (v :: L)) (hb : L = b :: M) (ha : L = N ++ [a]) (h0 : cr a v b = 0) (q : Pt) : OnP (v :: L) q ↔ OnP L q := by
  obtain ⟨h1, h2, _⟩ := h.ends hb ha
  have hm := (h.mid hb ha h0).1
  have hce := ces_cons (v := v) hb ha
  constructor
  · rintro ⟨e, he, ho⟩
    rcases (hce e).1 he with rfl | he | rfl
    · exact ⟨(a, b), (ces_L hb ha _).2 (Or.inr rfl), (On_halves h1 h2 hm).2 (Or.inr ho)⟩
    · exact ⟨e, (ces_L hb ha _).2 (Or.inl he), ho⟩
    · exact ⟨(a, b), (ces_L hb ha _).2 (Or.inr rfl), (On_halves h1 h2 hm).2 (Or.inl ho)⟩
  · rintro ⟨e, he, ho⟩
    rcases (ces_L hb ha e).1 he with he | rfl
    · exact ⟨e, (hce _).2 (Or.inr (Or.inl he)), ho⟩
    · rcases (On_halves h1 h2 hm).1 ho with k | k
      · exact ⟨(a, v), (hce _).2 (Or.inr (Or.inr rfl)), k⟩
      · exact ⟨(v, b), (hce _).2 (Or.inl rfl), k⟩
theorem Rot.onP {P Q : List Pt} (h : Rot P Q) (q : Pt) : OnP P q ↔ OnP Q q :=
  ⟨fun ⟨e, he, ho⟩ => ⟨e, (h.ces e).1 he, ho⟩, fun ⟨e, he, ho⟩ => ⟨e, (h.ces e).2 he, ho⟩⟩
/-- twice the area -/
def sh (a b : Pt) : Rat := a.1 * b.2 - a.2 * b.1
def pa : List Pt → Rat
  | a :: b :: l => sh a b + pa (b :: l)
  | _ => 0
def ar : List Pt → Rat
  | [] => 0
  | a :: l => pa (a :: (l ++ [a]))
theorem pa_two (a b : Pt) (l : List Pt) : pa (a :: b :: l) = sh a b + pa (b :: l) := rfl
theorem pa_split (A : List Pt) (x : Pt) (B : List Pt) : pa (A ++ x :: B) = pa (A ++ [x]) + pa (x :: B) := by
  induction A with
  | nil => show pa (x :: B) = 0 + pa (x :: B); grind
  | cons a A ih =>
    cases A with
    | nil =>
      show sh a x + pa (x :: B) = (sh a x + 0) + pa (x :: B)
      grind
    | cons b A =>
      simp only [List.cons_append, pa_two] at ih ⊢
      rw [ih]
      grind
theorem pa_snoc (A : List Pt) (x y : Pt) : pa (A ++ [x] ++ [y]) = pa (A ++ [x]) + sh x y := by
  rw [List.append_assoc]
  show pa (A ++ x :: [y]) = _
  rw [pa_split]
  show _ + (sh x y + 0) = _
  grind
theorem ar_rot (A B : List Pt) : ar (A ++ B) = ar (B ++ A) := by
  cases A with
  | nil => simp
  | cons a A =>
    cases B with
    | nil => simp
    | cons b B =>
      simp only [List.cons_append, ar, List.append_assoc]
      have h1 := pa_split (a :: A) b (B ++ [a])
      have h2 := pa_split (b :: B) a (A ++ [b])
      simp only [List.cons_append, List.append_assoc] at h1 h2
      rw [h1, h2]; grind
theorem Rot.ar {P Q : List Pt} (h : Rot P Q) : ar P = Geo.ar Q := by
  obtain ⟨A, B, rfl, rfl⟩ := h
  exact ar_rot A B
theorem ar_cons {v a b : Pt} {L M N : List Pt} (hb : L = b :: M) (ha : L = N ++ [a]) : ar (v :: L) = ar L + cr a v b := by
  have h1 : ar (v :: L) = sh v b + pa (L ++ [v]) := by rw [hb]; rfl
  have h2 : ar L = pa (L ++ [b]) := by rw [hb]; rfl
  rw [h1, h2, ha, pa_snoc, pa_snoc]
  unfold sh cr
  grind
theorem pa_get (L : List Pt) : ∀ f : Nat → Int, (∀ i, i + 1 < L.length → sh (L.getD i (0, 0)) (L.getD (i + 1) (0, 0)) = (f i : Rat)) → pa L = ((sumN f (L.length - 1) : Int) : Rat) := by
  induction L with
  | nil => intro f _; rfl
  | cons a l ih =>
    cases l with
    | nil => intro f _; rfl
    | cons b l =>
      intro f h
      rw [pa_two, ih (fun i => f (i + 1)) (fun i hi => h (i + 1) (by simpa using hi))]
      show _ = ((sumN _ (l.length + 1) : Int) : Rat)
      rw [sumN_head, Rat.intCast_add, ← h 0 (by simp)]
      rfl
end Geo
end
section
/- The corners of a simple polygon: the straight vertices left out. -/
namespace Geo
def hd (L : List Pt) (z : Pt) : Pt := L.headD z
def lst (p : Pt) : List Pt → Pt
  | [] => p
  | a :: l => lst a l
theorem lst_snoc (p a : Pt) (N : List Pt) : lst p (N ++ [a]) = a := by
  induction N generalizing p with
  | nil => rfl
  | cons b N ih => exact ih b
/-- the corners of a path with what stands ahead and behind -/
def crns (p : Pt) : List Pt → Pt → List Pt
  | [], _ => []
  | v :: L, z => if cr p v (hd L z) = 0 then crns v L z else v :: crns v L z
theorem crns_app (A : List Pt) : ∀ (p v z : Pt) (B : List Pt), crns p (A ++ v :: B) z = crns p A v ++ crns (lst p A) (v :: B) z := by
  induction A with
  | nil => intro p v z B; rfl
  | cons a A ih =>
    intro p v z B
    have e1 : hd (A ++ v :: B) z = hd A v := by cases A <;> rfl
    have e2 : lst p (a :: A) = lst a A := rfl
    rw [List.cons_append, crns, crns, e1, e2, ih]
    split <;> rfl
/-- the corners of a closed path -/
def cnr : List Pt → List Pt
  | [] => []
  | a :: l => crns (lst a l) (a :: l) a
theorem lst_app (p : Pt) (A : List Pt) (b : Pt) (B : List Pt) : lst p (A ++ b :: B) = lst b B := by
  induction A generalizing p with
  | nil => rfl
  | cons a A ih => exact ih a
theorem cnr_app (a b : Pt) (A B : List Pt) : cnr (a :: A ++ b :: B) = crns (lst b B) (a :: A) b ++ crns (lst a A) (b :: B) a := by
  have e : lst a (A ++ b :: B) = lst b B := lst_app a A b B
  show crns (lst a (A ++ b :: B)) (a :: A ++ b :: B) a = _
  rw [crns_app, e]
  rfl
theorem cnr_rot {P Q : List Pt} (h : Rot P Q) : ∃ A B, cnr P = A ++ B ∧ cnr Q = B ++ A := by
  obtain ⟨A, B, rfl, rfl⟩ := h
  cases A with
  | nil => exact ⟨[], cnr B, by simp, by simp⟩
  | cons a A =>
    cases B with
    | nil => exact ⟨cnr (a :: A), [], by simp, by simp⟩
    | cons b B => exact ⟨_, _, cnr_app a b A B, cnr_app b a B A⟩
theorem cnr_Rot {P Q : List Pt} (h : Rot P Q) : Rot (cnr P) (cnr Q) := by
  obtain ⟨A, B, h1, h2⟩ := cnr_rot h
  exact ⟨A, B, h1, h2⟩
theorem crns_sub (L : List Pt) : ∀ (p z : Pt), (crns p L z).Sublist L := by
  induction L with
  | nil => intro p z; exact List.Sublist.slnil
  | cons v L ih =>
    intro p z
    rw [crns]
    split
    · exact (ih v z).cons _
    · exact (ih v z).cons_cons _
theorem cnr_sub (P : List Pt) : (cnr P).Sublist P := by
  cases P with
  | nil => exact List.Sublist.slnil
  | cons a l => exact crns_sub _ _ _
theorem cnr_same_rot {P Q : List Pt} (h : Rot P Q) (hs : cnr P = P) : cnr Q = Q := by
  obtain ⟨A, B, rfl, rfl⟩ := h
  cases A with
  | nil => simpa using hs
  | cons a A =>
    cases B with
    | nil => simpa using hs
    | cons b B =>
      rw [cnr_app] at hs ⊢
      have s1 := crns_sub (a :: A) (lst b B) b
      have s2 := crns_sub (b :: B) (lst a A) a
      have hl := congrArg List.length hs
      simp only [List.length_append] at hl
      have l1 := s1.length_le
      have l2 := s2.length_le
      rw [s1.eq_of_length (by omega), s2.eq_of_length (by omega)]
theorem crns_find (L : List Pt) : ∀ (p z : Pt), crns p L z ≠ L → ∃ A v B, L = A ++ v :: B ∧ cr (lst p A) v (hd B z) = 0 := by
  induction L with
  | nil => intro p z h; exact absurd rfl h
  | cons v L ih =>
    intro p z h
    rw [crns] at h
    by_cases h0 : cr p v (hd L z) = 0
    · exact ⟨[], v, L, rfl, h0⟩
    · rw [if_neg h0] at h
      obtain ⟨A, w, B, h1, h2⟩ := ih v z (fun e => h (by rw [e]))
      refine ⟨v :: A, w, B, by rw [h1]; rfl, ?_⟩
      exact h2
theorem lst_ne (p q : Pt) {A : List Pt} (h : A ≠ []) : lst p A = lst q A := by
  cases A with
  | nil => exact absurd rfl h
  | cons a A => rfl
/-- a straight vertex can be brought to the front -/
theorem straight_front {P : List Pt} (h3 : 3 ≤ P.length) (h : cnr P ≠ P) : ∃ v L a b M N, Rot P (v :: L) ∧ L = b :: M ∧ L = N ++ [a] ∧ cr a v b = 0 := by
  obtain ⟨x, P, rfl⟩ : ∃ x l, P = x :: l := by
    cases P with
    | nil => simp at h3
    | cons x l => exact ⟨x, l, rfl⟩
  obtain ⟨A, v, B, h1, h2⟩ := crns_find _ _ _ h
  have hrot : Rot (x :: P) (v :: (B ++ A)) := ⟨A, v :: B, h1, rfl⟩
  have hne : B ++ A ≠ [] := by
    intro e
    have := hrot.length
    rw [e] at this
    simp only [List.length_cons, List.length_nil] at this h3
    omega
  obtain ⟨b, M, hb⟩ : ∃ b M, B ++ A = b :: M := by
    cases hBA : B ++ A with
    | nil => exact absurd hBA hne
    | cons b M => exact ⟨b, M, rfl⟩
  obtain ⟨N, a, ha⟩ : ∃ N a, B ++ A = N ++ [a] := ⟨(B ++ A).dropLast, (B ++ A).getLast hne, (List.dropLast_concat_getLast hne).symm⟩
  refine ⟨v, B ++ A, a, b, M, N, hrot, hb, ha, ?_⟩
  have eb : hd B x = b := by
    cases B with
    | nil =>
      cases A with
      | nil => simp at hne
      | cons c A =>
        simp at hb h1
        show x = b
        rw [h1.1, hb.1]
    | cons c B => simp at hb; exact hb.1
  have ea : lst (lst x P) A = a := by
    cases A with
    | nil =>
      simp at h1 ha
      show lst x P = a
      rw [h1.2, ha, lst_snoc]
    | cons c A =>
      have : lst (lst x P) (c :: A) = lst c (c :: A) := lst_ne _ _ (by simp)
      rw [this]
      have h5 : lst c (B ++ c :: A) = lst c (N ++ [a]) := by rw [ha]
      rw [lst_app] at h5
      rw [lst_snoc] at h5
      exact h5
  rw [eb, ea] at h2
  exact h2
theorem cr_dir {a v b w : Pt} {t : Rat} (ht : t ≠ 0) (e : v = (a.1 + t * (b.1 - a.1), a.2 + t * (b.2 - a.2))) : (cr w a v = 0 ↔ cr w a b = 0) ∧ (t ≠ 1 → (cr v b w = 0 ↔ cr a b w = 0)) := by
  have e1 : cr w a v = t * cr w a b := by rw [e]; unfold cr; grind
  have e2 : cr v b w = (1 - t) * cr a b w := by rw [e]; unfold cr; grind
  constructor
  · rw [e1]
    constructor
    · intro h
      rcases Rat.mul_eq_zero.1 h with k | k
      · exact absurd k ht
      · exact k
    · intro h; rw [h]; grind
  · intro h1
    rw [e2]
    constructor
    · intro h
      rcases Rat.mul_eq_zero.1 h with k | k
      · exact absurd (by grind) h1
      · exact k
    · intro h; rw [h]; grind
theorem cnr_skip {v a b : Pt} {L M N : List Pt} (h : Simp (v :: L)) (hb : L = b :: M) (ha : L = N ++ [a]) (h0 : cr a v b = 0) : cnr (v :: L) = cnr L := by
  obtain ⟨h1, h2, h3, _⟩ := h.ends hb ha
  obtain ⟨hm, hl⟩ := h.mid hb ha h0
  obtain ⟨t, t0, t1, e⟩ := between_strict h1 h2 hm
  obtain ⟨K, hK⟩ : ∃ K, M = K ++ [a] := by
    rw [hb] at ha
    cases N with
    | nil => simp at ha; exact absurd ha.1.symm h3
    | cons c N => rw [List.cons_append, List.cons.injEq] at ha; exact ⟨N, ha.2⟩
  have hK0 : K ≠ [] := by
    intro hk
    rw [hk] at hK
    rw [hb, hK] at hl
    simp at hl
  have hM0 : M ≠ [] := by rw [hK]; simp
  subst hb
  subst hK
  have la : lst v (b :: (K ++ [a])) = a := lst_snoc b a K
  have la2 : lst b (K ++ [a]) = a := lst_snoc b a K
  have c1 : cnr (v :: b :: (K ++ [a])) = crns v (b :: (K ++ [a])) v := by
    show crns (lst v (b :: (K ++ [a]))) (v :: b :: (K ++ [a])) v = _
    rw [la, crns, if_pos (show cr a v (hd (b :: (K ++ [a])) v) = 0 from h0)]
  have c2 : cnr (b :: (K ++ [a])) = crns a (b :: (K ++ [a])) b := by
    show crns (lst b (K ++ [a])) (b :: (K ++ [a])) b = _
    rw [la2]
  rw [c1, c2]
  have f : ∀ p z, crns p (b :: (K ++ [a])) z = (if cr p b (hd K a) = 0 then [] else [b]) ++ (crns b K a ++ (if cr (lst b K) a z = 0 then [] else [a])) := by
    intro p z
    rw [crns, crns_app]
    have e1 : hd (K ++ [a]) z = hd K a := by cases K <;> rfl
    have e2 : crns (lst b K) [a] z = if cr (lst b K) a z = 0 then [] else [a] := rfl
    rw [e1, e2]
    split <;> simp
  rw [f v v, f a b]
  have g1 := (cr_dir (w := hd K a) (by grind) e).2 (by grind)
  have g2 := (cr_dir (w := lst b K) (by grind) e).1
  simp only [g1, g2]
/-- the corners make the same polygon -/
theorem cnr_good : ∀ (n : Nat) (P : List Pt), P.length = n → Simp P → Simp (cnr P) ∧ (∀ q, cw (cnr P) q = cw P q) ∧ (∀ q, OnP (cnr P) q ↔ OnP P q) ∧ ar (cnr P) = ar P ∧ cnr (cnr P) = cnr P := by
  intro n
  induction n using Nat.strongRecOn with
  | ind n ih =>
    intro P hn hP
    by_cases h : cnr P = P
    · rw [h]; exact ⟨hP, fun _ => rfl, fun _ => Iff.rfl, rfl, h⟩
    · obtain ⟨v, L, a, b, M, N, hr, hb, ha, h0⟩ := straight_front hP.len h
      have hs := hr.simp hP
      have hlen := hr.length
      simp only [List.length_cons] at hlen
      obtain ⟨i1, i2, i3, i4, i5⟩ := ih L.length (by omega) L rfl (hs.skip hb ha h0)
      have hc := cnr_Rot hr
      rw [cnr_skip hs hb ha h0] at hc
      refine ⟨hc.symm.simp i1, fun q => ?_, fun q => ?_, ?_, cnr_same_rot hc.symm i5⟩
      · rw [hc.cw, i2, ← hs.skip_cw hb ha h0, hr.cw]
      · rw [hc.onP, i3, ← hs.skip_on hb ha h0, hr.onP]
      · rw [hc.ar, i4, hr.ar, ar_cons hb ha, h0, Rat.add_zero]
end Geo
end
section
/- The sign of the area is that of the winding; common points of segments; back to the program's test. -/
namespace Geo
theorem sg_mul {d : Rat} (h : d ≠ 0) : 0 < ((sg d : Int) : Rat) * d := by
  unfold sg
  by_cases h1 : 0 < d
  · rw [if_pos h1]
    show 0 < ((1 : Int) : Rat) * d
    rw [Rat.intCast_one, Rat.one_mul]; exact h1
  · rw [if_neg h1, if_pos (by grind)]
    have e : ((-1 : Int) : Rat) = -1 := rfl
    rw [e]
    grind
theorem Good.mid_off {P L : List Pt} {v a b : Pt} (g : Good P v L a b) (hl : L.length = 2) : Off P (mid a v b) := by
  obtain ⟨M, hb⟩ := g.seen.head
  obtain ⟨N, ha⟩ := g.seen.last
  obtain ⟨m1, m2, m3⟩ := mid_in g.seen.turn
  intro e he ho
  have hr1 : cr v b a ≠ 0 := by rw [cr_rot2]; exact g.seen.turn
  have hr2 : cr b a v ≠ 0 := by rw [← cr_rot2]; exact g.seen.turn
  rcases (ces_cons hb ha e).1 ((g.rot.ces e).1 he) with rfl | h | rfl
  · have := On_cr ho
    have h2 := bc_mul (a := v) (v := b) (b := a) hr1 (mid a v b)
    rw [this] at h2
    rcases Rat.mul_eq_zero.1 h2 with k | k <;> grind
  · have hL : L = [b, a] := by
      rw [hb] at hl ha ⊢
      match M, hl with
      | [c], _ =>
        cases N with
        | nil => simp at ha
        | cons d N =>
          rw [List.cons_append, List.cons.injEq] at ha
          cases N with
          | nil => simp at ha; rw [ha.2]
          | cons _ _ => have := congrArg List.length ha.2; simp at this
    rw [hL] at h
    have h : e = (b, a) := by simpa [es] using h
    subst h
    have := On_cr ho
    have h2 := bc_mul (a := b) (v := a) (b := v) hr2 (mid a v b)
    rw [this] at h2
    rcases Rat.mul_eq_zero.1 h2 with k | k <;> grind
  · have := On_cr ho
    have h2 := bc_mul (a := a) (v := v) (b := b) g.seen.turn (mid a v b)
    rw [this] at h2
    rcases Rat.mul_eq_zero.1 h2 with k | k
    · grind
    · exact g.seen.turn k
/-- the winding number s of the inside, and the area's sign -/
structure Turns (P : List Pt) (s : Int) : Prop where
  one : s = 1 ∨ s = -1
  two : ∀ q, Off P q → cw P q = 0 ∨ cw P q = s
  some : ∃ y, Off P y ∧ cw P y = s
  area : 0 < (s : Rat) * ar P
theorem turns : ∀ (n : Nat) (P : List Pt), P.length = n → Simp P → ∃ s : Int, Turns P s := by
  intro n
  induction n using Nat.strongRecOn with
  | ind n ih =>
    intro P hn hP
    obtain ⟨x, y, hxy⟩ := some_side hP
    obtain ⟨v, L, a, b, g, _, _⟩ := ears n P hn hP x y hxy
    have hlen := g.rot.length
    simp only [List.length_cons] at hlen
    have h3 := hP.len
    obtain ⟨M, hb⟩ := g.seen.head
    obtain ⟨N, ha⟩ := g.seen.last
    have har : ar P = ar L + cr a v b := by rw [g.rot.ar, ar_cons hb ha]
    by_cases hl : L.length = 2
    · have hL0 : ar L = 0 := by
        match L, hl with
        | [c, d], _ =>
          show sh c d + (sh d c + 0) = 0
          unfold sh; grind
      refine ⟨sg (cr a v b), sg_cases g.seen.turn, fun q o => ?_, ⟨mid a v b, g.mid_off hl, ?_⟩, ?_⟩
      · by_cases hi : InT a v b q
        · exact Or.inr ((g.tri hl o).1 hi)
        · exact Or.inl ((g.tri hl o).2 hi)
      · obtain ⟨m1, m2, m3⟩ := mid_in g.seen.turn
        exact (g.tri hl (g.mid_off hl)).1 ⟨by grind, by grind, by grind⟩
      · rw [har, hL0]
        have := sg_mul g.seen.turn
        grind
    · have hl3 : 3 ≤ L.length := by omega
      obtain ⟨s, hs, hL, _, hA⟩ := ih L.length (by omega) L rfl (g.seen.cut g.empty hl3)
      obtain ⟨y, oy, ny, ey⟩ := g.across hP hl3
      have es : sg (cr a v b) = s := by
        rcases hL y (g.offL oy ny) with h | h
        · rw [g.outer ny, h] at ey
          rcases sg_cases g.seen.turn with k | k <;> omega
        · rw [← h, ← g.outer ny, ey]
      refine ⟨s, hs, fun q o => ?_, ⟨y, oy, by rw [ey, es]⟩, ?_⟩
      · by_cases hi : InT a v b q
        · obtain ⟨p1, p2, p3⟩ := g.within o hi
          exact Or.inr (by rw [g.inner hl3 p1 p2 p3, es])
        · rw [g.outer hi]
          exact hL q (g.offL o hi)
      · rw [har]
        have := sg_mul g.seen.turn
        rw [es] at this
        grind
theorem Turns.pos {P : List Pt} {s : Int} (h : Turns P s) : s = 1 ↔ 0 < ar P := by
  have ha := h.area
  have e1 : ((1 : Int) : Rat) = 1 := rfl
  have e2 : ((-1 : Int) : Rat) = -1 := rfl
  rcases h.one with rfl | rfl
  · rw [e1] at ha; exact ⟨fun _ => by grind, fun _ => rfl⟩
  · rw [e2] at ha; exact ⟨fun h => by omega, fun h => by exfalso; grind⟩
/-- crossing segments have a point in common -/
theorem cross_pt {a b c d : Pt} (h1 : (cr a b c < 0 ∧ 0 < cr a b d) ∨ (0 < cr a b c ∧ cr a b d < 0)) (h2 : (cr c d a < 0 ∧ 0 < cr c d b) ∨ (0 < cr c d a ∧ cr c d b < 0)) : ∃ x, On a b x ∧ On c d x := by
  have hx : ∃ x, On c d x ∧ cr a b x = 0 := by
    rcases h1 with ⟨k1, k2⟩ | ⟨k1, k2⟩
    · obtain ⟨x, x1, x2, _⟩ := ivt k1 (show 0 ≤ cr a b d by grind); exact ⟨x, x1, x2⟩
    · obtain ⟨x, x1, x2, _⟩ := ivt k2 (show 0 ≤ cr a b c by grind); exact ⟨x, On_symm x1, x2⟩
  have hy : ∃ y, On a b y ∧ cr c d y = 0 := by
    rcases h2 with ⟨k1, k2⟩ | ⟨k1, k2⟩
    · obtain ⟨x, x1, x2, _⟩ := ivt k1 (show 0 ≤ cr c d b by grind); exact ⟨x, x1, x2⟩
    · obtain ⟨x, x1, x2, _⟩ := ivt k2 (show 0 ≤ cr c d a by grind); exact ⟨x, On_symm x1, x2⟩
  obtain ⟨x, x1, x2⟩ := hx
  obtain ⟨y, y1, y2⟩ := hy
  have x3 := On_cr x1
  have y3 := On_cr y1
  have hne : cr a b d - cr a b c ≠ 0 := by rcases h1 with h | h <;> grind
  have e : x = y := by
    have d1 : (cr a b d - cr a b c) * (x.1 - y.1) = 0 := by unfold cr at *; grind
    have d2 : (cr a b d - cr a b c) * (x.2 - y.2) = 0 := by unfold cr at *; grind
    apply Prod.ext
    · rcases Rat.mul_eq_zero.1 d1 with k | k
      · exact absurd k hne
      · grind
    · rcases Rat.mul_eq_zero.1 d2 with k | k
      · exact absurd k hne
      · grind
  exact ⟨x, e ▸ y1, x1⟩
theorem meet_pt {a b c d : Pt} (h : MeetR a b c d) : ∃ x, On a b x ∧ On c d x := by
  rcases h with h | h | h | h | ⟨h, k⟩
  · exact ⟨c, h, On_left _ _⟩
  · exact ⟨d, h, On_right _ _⟩
  · exact ⟨a, On_left _ _, h⟩
  · exact ⟨b, On_right _ _, h⟩
  · exact cross_pt h k
theorem nodup_cz {P : List IP} : (czL P).Nodup ↔ P.Nodup := by
  unfold czL List.Nodup
  rw [List.pairwise_map]
  constructor
  · intro h; exact h.imp fun hab e => hab (by rw [e])
  · intro h; exact h.imp fun hab e => hab (cz_inj.1 e)
theorem nth_inj {P : List IP} (h : P.Nodup) {i j : Nat} (h0 : 0 < P.length) (e : nth P i = nth P j) : i % P.length = j % P.length := by
  have hi := Nat.mod_lt i h0
  have hj := Nat.mod_lt j h0
  have e1 : nth P i = P[i % P.length] := by unfold nth; simp [List.getD, hi]
  have e2 : nth P j = P[j % P.length] := by unfold nth; simp [List.getD, hj]
  rw [e1, e2] at e
  have hp := List.pairwise_iff_getElem.1 h
  rcases Nat.lt_trichotomy (i % P.length) (j % P.length) with k | k | k
  · exact absurd e (hp _ _ hi hj k)
  · exact k
  · exact absurd e.symm (hp _ _ hj hi k)
theorem simpI_of {P : List IP} (h3 : 3 ≤ P.length) (h : Simp (czL P)) : SimpI P := by
  have hP : P ≠ [] := by rintro rfl; simp at h3
  have hn := nodup_cz.1 h.nodup
  have h0 : 0 < P.length := by omega
  have inj : ∀ {i j}, nth P i = nth P j → i % P.length = j % P.length := fun e => nth_inj hn h0 e
  have side : ∀ i, i < P.length → (cz (nth P i), cz (nth P (i + 1))) ∈ ces (czL P) := fun i hi => (ces_get hP _).2 ⟨i, hi, rfl⟩
  have mem : ∀ i, cz (nth P i) ∈ czL P := fun i => List.mem_map_of_mem (nth_in hP i)
  intro i hi
  have m1 : (i + 1) % P.length = if i + 1 = P.length then 0 else i + 1 := by
    split
    · rename_i e; rw [e, Nat.mod_self]
    · exact Nat.mod_eq_of_lt (by omega)
  have m2 : (i + 2) % P.length = if i + 2 = P.length then 0 else if i + 1 = P.length then 1 else i + 2 := by
    split
    · rename_i e; rw [e, Nat.mod_self]
    · split
      · rename_i e; rw [show i + 2 = 1 + P.length by omega, Nat.add_mod_right]; exact Nat.mod_eq_of_lt (by omega)
      · exact Nat.mod_eq_of_lt (by omega)
  have m0 : i % P.length = i := Nat.mod_eq_of_lt hi
  refine ⟨fun e => ?_, fun hb => ?_, fun hb => ?_, fun k hik hk hx hm => ?_⟩
  · have := inj e
    rw [m0, m1] at this
    split at this <;> omega
  · rcases h.vert (side i hi) (mem (i + 2)) ((bet_On _ _ _).1 hb) with e | e
    · have := inj (cz_inj.1 e)
      rw [m0, m2] at this
      (repeat' split at this) <;> omega
    · have := inj (cz_inj.1 e)
      rw [m1, m2] at this
      (repeat' split at this) <;> omega
  · have hs : (cz (nth P (i + 1)), cz (nth P (i + 2))) ∈ ces (czL P) := by
      have := side ((i + 1) % P.length) (Nat.mod_lt _ h0)
      have e2 : nth P ((i + 1) % P.length + 1) = nth P (i + 2) := by unfold nth; rw [Nat.mod_add_mod]
      rw [nth_modl, e2] at this
      exact this
    rcases h.vert hs (mem i) ((bet_On _ _ _).1 hb) with e | e
    · have := inj (cz_inj.1 e)
      rw [m0, m1] at this
      split at this <;> omega
    · have := inj (cz_inj.1 e)
      rw [m0, m2] at this
      (repeat' split at this) <;> omega
  · obtain ⟨x, x1, x2⟩ := meet_pt ((meetI_R _ _ _ _).1 hm)
    have k0 : k % P.length = k := Nat.mod_eq_of_lt hk
    have k1 : (k + 1) % P.length = if k + 1 = P.length then 0 else k + 1 := by
      split
      · rename_i e; rw [e, Nat.mod_self]
      · exact Nat.mod_eq_of_lt (by omega)
    have hne : (cz (nth P i), cz (nth P (i + 1))) ≠ (cz (nth P k), cz (nth P (k + 1))) := fun e => by
      have := inj (cz_inj.1 (congrArg Prod.fst e))
      rw [m0, k0] at this
      omega
    obtain ⟨u, w⟩ := h.meet _ (side i hi) _ (side k hk) hne x x1 x2
    have fin : ∀ s t : Nat, x = cz (nth P s) → x = cz (nth P t) → s % P.length = t % P.length := fun s t h1 h2 => inj (cz_inj.1 (h1.symm.trans h2))
    rcases u with u | u <;> rcases w with w | w
    · have := fin i k u w; rw [m0, k0] at this; omega
    · have := fin i (k + 1) u w; rw [m0, k1] at this; split at this <;> omega
    · have := fin (i + 1) k u w; rw [m1, k0] at this; split at this <;> omega
    · have := fin (i + 1) (k + 1) u w; rw [m1, k1] at this; (repeat' split at this) <;> omega
theorem simpI_iff {P : List IP} (h3 : 3 ≤ P.length) : SimpI P ↔ Simp (czL P) := ⟨simp_cz h3, simpI_of h3⟩
end Geo
end
section
/- The normal form of a simple polygon, in plain terms. -/
namespace Pl
open Go Geo Pm
theorem czL_cons (a : IP) (l : List IP) : czL (a :: l) = cz a :: czL l := rfl
theorem czL_app (a b : List IP) : czL (a ++ b) = czL a ++ czL b := List.map_append ..
theorem czL_rev (a : List IP) : czL a.reverse = (czL a).reverse := List.map_reverse ..
theorem czL_inj {a b : List IP} (h : czL a = czL b) : a = b := by
  unfold czL at h
  exact List.map_inj_right (fun x y e => cz_inj.1 e) |>.1 h
def cornFrom (P : List IP) (i m : Nat) : List IP := ((List.range' i m).filter (turnsAt P)).map (nth P)
theorem corn_crns {P : List IP} (h0 : 0 < P.length) : ∀ (m i : Nat), i + m = P.length →
    crns (cz (nth P (i + P.length - 1))) (czL (P.drop i)) (cz (nth P 0)) = czL (cornFrom P i m)
  | 0, i, h => by rw [List.drop_of_length_le (by omega)]; rfl
  | m + 1, i, h => by
    have hi : i < P.length := by omega
    have ih := corn_crns h0 m (i + 1) (by omega)
    rw [show i + 1 + P.length - 1 = i + P.length by omega, nth_per] at ih
    have eh : hd (czL (P.drop (i + 1))) (cz (nth P 0)) = cz (nth P (i + 1)) := by
      by_cases h1 : i + 1 < P.length
      · rw [drop_cons h1, nth_get h1]; rfl
      · rw [List.drop_of_length_le (by omega), show i + 1 = 0 + P.length by omega, nth_per]; rfl
    have er : cornFrom P i (m + 1) = (if turnsAt P i then [nth P i] else []) ++ cornFrom P (i + 1) m := by
      unfold cornFrom
      rw [List.range'_succ, List.filter_cons]
      split <;> simp
    rw [drop_cons hi, czL_cons, ← nth_get hi, crns, eh, er, ih, czL_app]
    have et : turnsAt P i = true ↔ ¬ cr (cz (nth P (i + P.length - 1))) (cz (nth P i)) (cz (nth P (i + 1))) = 0 := by
      rw [cr_nil]; unfold turnsAt; simp
    by_cases hc : cr (cz (nth P (i + P.length - 1))) (cz (nth P i)) (cz (nth P (i + 1))) = 0
    · rw [if_pos hc, if_neg (fun h => et.1 h hc)]; rfl
    · rw [if_neg hc, if_pos (et.2 hc)]; rfl
theorem lst_cz (p : IP) (l : List IP) : lst (cz p) (czL l) = cz (nth (p :: l) l.length) := by
  have : ∀ (l : List IP) (p : IP), lst (cz p) (czL l) = cz ((p :: l).getD l.length (0, 0)) := by
    intro l
    induction l with
    | nil => intro p; rfl
    | cons a l ih => intro p; exact ih a
  rw [this l p]
  unfold nth
  rw [Nat.mod_eq_of_lt (by simp)]
theorem corn_cnr {P : List IP} (hP : P ≠ []) : czL (corn P) = cnr (czL P) := by
  obtain ⟨p, l, rfl⟩ : ∃ p l, P = p :: l := by
    cases P with
    | nil => exact absurd rfl hP
    | cons p l => exact ⟨p, l, rfl⟩
  have h := corn_crns (P := p :: l) (by simp) (p :: l).length 0 (by simp)
  have e : corn (p :: l) = cornFrom (p :: l) 0 (p :: l).length := by unfold corn cornFrom; rw [List.range_eq_range']
  rw [e, ← h]
  show _ = crns (lst (cz p) (czL l)) (cz p :: czL l) (cz p)
  rw [lst_cz]
  have e2 : nth (p :: l) (0 + (p :: l).length - 1) = nth (p :: l) l.length := by simp
  rw [e2]
  rfl
theorem ar_cz {P : List IP} (hP : P ≠ []) : ar (czL P) = ((areaI P : Int) : Rat) := by
  obtain ⟨a, l, h, k⟩ := closed_get P hP
  have hl : (a :: (l ++ [a])).length = P.length + 1 := by
    have := congrArg List.length h
    rw [czL_len] at this
    simp at this ⊢; omega
  rw [h]
  show pa (a :: (l ++ [a])) = _
  rw [pa_get (a :: (l ++ [a])) (fun i => shoe (nth P i) (nth P (i + 1))) (fun i hi => ?_), hl, ← shoe_area]
  · rfl
  · rw [k i (by omega), k (i + 1) (by omega)]
    unfold sh cz shoe
    rw [Rat.intCast_sub, Rat.intCast_mul, Rat.intCast_mul]
theorem onP_cz {P : List IP} (hP : P ≠ []) {q : IP} : OnP (czL P) (cz q) ↔ OnI P q := by
  have := off_cz hP (q := q)
  rw [off_iff] at this
  constructor
  · intro h; exact Classical.not_not.1 fun hn => this.2 hn h
  · intro h; exact Classical.not_not.1 fun hn => this.1 hn h
/-- two lists that are one polygon but for where they begin -/
def RotI (P Q : List IP) : Prop := ∃ A B, P = A ++ B ∧ Q = B ++ A
theorem RotI.cz {P Q : List IP} (h : RotI P Q) : Rot (czL P) (czL Q) := by
  obtain ⟨A, B, rfl, rfl⟩ := h
  exact ⟨czL A, czL B, czL_app A B, czL_app B A⟩
theorem RotI.symm {P Q : List IP} (h : RotI P Q) : RotI Q P := by obtain ⟨A, B, h1, h2⟩ := h; exact ⟨B, A, h2, h1⟩
theorem RotI.len {P Q : List IP} (h : RotI P Q) : P.length = Q.length := by obtain ⟨A, B, rfl, rfl⟩ := h; simp; omega
theorem RotI.mem {P Q : List IP} (h : RotI P Q) (s : IP) : s ∈ P ↔ s ∈ Q := by obtain ⟨A, B, rfl, rfl⟩ := h; simp [or_comm]
theorem RotI.ne {P Q : List IP} (h : RotI P Q) (hP : P ≠ []) : Q ≠ [] := by
  intro e
  have := h.len
  rw [e] at this
  exact hP (List.length_eq_zero_iff.1 this)
theorem RotI.chk {P Q : List IP} (h : RotI P Q) : Geo.chk P = Geo.chk Q := by
  have hl := h.len
  have hi : InsI P ↔ InsI Q := ⟨fun k s hs => k s ((h.mem s).2 hs), fun k s hs => k s ((h.mem s).1 hs)⟩
  unfold Geo.chk
  by_cases h1 : 40 < P.length
  · rw [if_pos h1, if_pos (by omega)]
  rw [if_neg h1, if_neg (show ¬ 40 < Q.length by omega)]
  by_cases h2 : P.length < 3
  · rw [if_pos h2, if_pos (by omega)]
  rw [if_neg h2, if_neg (show ¬ Q.length < 3 by omega)]
  have hs : SimpI P ↔ SimpI Q := by
    rw [simpI_iff (by omega), simpI_iff (by omega)]
    exact ⟨h.cz.simp, h.cz.symm.simp⟩
  rw [show InsI P = InsI Q from propext hi, show SimpI P = SimpI Q from propext hs]
theorem RotI.area {P Q : List IP} (h : RotI P Q) (hP : P ≠ []) : areaI P = areaI Q := by
  have := h.cz.ar
  rw [ar_cz hP, ar_cz (h.ne hP)] at this
  exact Rat.intCast_inj.1 this
theorem RotI.wnd {P Q : List IP} (h : RotI P Q) (hP : P ≠ []) (q : IP) : wndI P q = wndI Q q := by
  rw [← cw_cz hP, ← cw_cz (h.ne hP), h.cz.cw]
theorem RotI.on {P Q : List IP} (h : RotI P Q) (hP : P ≠ []) (q : IP) : OnI P q ↔ OnI Q q := by
  rw [← onP_cz hP, ← onP_cz (h.ne hP), h.cz.onP]
theorem leastL_rotI {l : List IP} : RotI l (leastL l) := ⟨l.take (leastAt l), l.drop (leastAt l), (List.take_append_drop _ _).symm, rfl⟩
/-- the corners of a valid polygon are a valid polygon that is the same -/
structure Corn (P : List IP) : Prop where
  chk : Geo.chk (corn P) = 0
  len : (corn P).length ≤ P.length
  area : areaI (corn P) = areaI P
  wnd : ∀ q, wndI (corn P) q = wndI P q
  on : ∀ q, OnI (corn P) q ↔ OnI P q
  self : corn (corn P) = corn P
  nodup : (corn P).Nodup
  sub : (corn P).Sublist P
theorem simp_len {P : List IP} (h : Simp (czL P)) : 3 ≤ P.length := by have := h.len; rwa [czL_len] at this
theorem corn_of {P : List IP} (h : chk P = 0) : Corn P := by
  obtain ⟨h3, h40, hb, hP, hs⟩ := chk_in h
  obtain ⟨g1, g2, g3, g4, g5⟩ := cnr_good _ (czL P) rfl (simp_cz h3 hs)
  rw [← corn_cnr hP] at g1 g2 g3 g4 g5
  have c3 := simp_len g1
  have cne : corn P ≠ [] := by intro e; rw [e] at c3; simp at c3
  have hsub : (czL (corn P)).Sublist (czL P) := by rw [corn_cnr hP]; exact cnr_sub _
  have hlen : (corn P).length ≤ P.length := cornTo_len P P.length
  have hsub2 : (corn P).Sublist P := by
    have key : ∀ (b : List IP) (x : List Pt), x.Sublist (czL b) → ∃ a : List IP, x = czL a ∧ a.Sublist b := by
      intro b
      induction b with
      | nil => intro x h; exact ⟨[], List.sublist_nil.1 h, List.Sublist.slnil⟩
      | cons y b ih =>
        intro x h
        rw [czL_cons] at h
        rcases List.sublist_cons_iff.1 h with h | ⟨r, e, h'⟩
        · obtain ⟨a, h1, h2⟩ := ih x h
          exact ⟨a, h1, h2.cons _⟩
        · obtain ⟨a, e2, h2⟩ := ih r h'
          exact ⟨y :: a, by rw [e, e2]; rfl, h2.cons_cons _⟩
    obtain ⟨a, h1, h2⟩ := key _ _ hsub
    rw [czL_inj h1]; exact h2
  refine ⟨chk_ok.2 ⟨by omega, c3, fun s hs => hb s (hsub2.subset hs), simpI_of c3 g1⟩, hlen, ?_, fun q => ?_, fun q => ?_, ?_, nodup_cz.1 g1.nodup, hsub2⟩
  · rw [ar_cz cne, ar_cz hP] at g4; exact Rat.intCast_inj.1 g4
  · rw [← cw_cz cne, ← cw_cz hP]; exact g2 _
  · rw [← onP_cz cne, ← onP_cz hP]; exact g3 _
  · rw [← corn_cnr cne] at g5; exact czL_inj g5
end Pl
end
section
/- The test of a polygon by computing; the examples are run with it. -/
namespace Pl
open Go Geo Pm
def betB (a b q : IP) : Bool := crI a b q == 0 && (decide (min a.1 b.1 ≤ q.1) && decide (q.1 ≤ max a.1 b.1)) && (decide (min a.2 b.2 ≤ q.2) && decide (q.2 ≤ max a.2 b.2))
theorem betB_iff (a b q : IP) : betB a b q = true ↔ BetI a b q := by unfold betB BetI; simp only [Bool.and_eq_true, beq_iff_eq, decide_eq_true_eq, and_assoc]
def divB (a b p q : IP) : Bool := (decide (crI a b p < 0) && decide (0 < crI a b q)) || (decide (0 < crI a b p) && decide (crI a b q < 0))
theorem divB_iff (a b p q : IP) : divB a b p q = true ↔ DivI a b p q := by unfold divB DivI; simp only [Bool.or_eq_true, Bool.and_eq_true, decide_eq_true_eq]
def meetB (a b c d : IP) : Bool := betB a b c || (betB a b d || (betB c d a || (betB c d b || (divB a b c d && divB c d a b))))
theorem meetB_iff (a b c d : IP) : meetB a b c d = true ↔ MeetI a b c d := by unfold meetB MeetI; simp only [Bool.or_eq_true, Bool.and_eq_true, betB_iff, divB_iff]
def simpB (P : List IP) : Bool := (List.range P.length).all fun i => !(decide (nth P i = nth P (i + 1))) && (!betB (nth P i) (nth P (i + 1)) (nth P (i + 2)) && (!betB (nth P (i + 1)) (nth P (i + 2)) (nth P i) &&
  (List.range P.length).all fun k => !Nat.ble (i + 2) k || ((Nat.beq i 0 && Nat.beq k (P.length - 1)) || !meetB (nth P i) (nth P (i + 1)) (nth P k) (nth P (k + 1)))))
theorem simpB_iff (P : List IP) : simpB P = true ↔ SimpI P := by
  unfold simpB SimpI
  simp only [List.all_eq_true, List.mem_range, Bool.and_eq_true, Bool.not_eq_true', decide_eq_false_iff_not, ← Bool.not_eq_true, betB_iff, Bool.or_eq_true, meetB_iff, Nat.beq_eq, Nat.ble_eq]
  refine forall_congr' fun i => forall_congr' fun hi => ?_
  refine and_congr (by simp) (and_congr Iff.rfl (and_congr Iff.rfl ?_))
  constructor
  · intro h k h1 h2 h3
    rcases h k h2 with h4 | h4 | h4
    · exact absurd h1 h4
    · exact absurd h4 h3
    · exact h4
  · intro h k h2
    by_cases h1 : i + 2 ≤ k
    · by_cases h3 : i = 0 ∧ k = P.length - 1
      · exact Or.inr (Or.inl h3)
      · exact Or.inr (Or.inr (h k h1 h2 h3))
    · exact Or.inl h1
def insB (s : IP) : Bool := (decide (-1048576 ≤ s.1) && decide (s.1 ≤ 1048576)) && (decide (-1048576 ≤ s.2) && decide (s.2 ≤ 1048576))
theorem insB_iff (s : IP) : insB s = true ↔ insI s.1 ∧ insI s.2 := by unfold insB insI; simp only [Bool.and_eq_true, decide_eq_true_eq]
def chkB (P : List IP) : Int := cond (Nat.blt 40 P.length) 5 (cond (Nat.blt P.length 3) 11 (cond (P.all insB) (cond (simpB P) 0 11) 3))
theorem chkB_eq (P : List IP) : chkB P = chk P := by
  unfold chkB chk
  by_cases h1 : 40 < P.length
  · rw [if_pos h1, show Nat.blt 40 P.length = true from of_eq_true (by rw [Nat.blt_eq]; simp [h1])]; rfl
  rw [if_neg h1, show Nat.blt 40 P.length = false from Bool.eq_false_iff.2 (fun h => h1 (Nat.blt_eq ▸ h))]
  by_cases h2 : P.length < 3
  · rw [if_pos h2, show Nat.blt P.length 3 = true from of_eq_true (by rw [Nat.blt_eq]; simp [h2])]; rfl
  rw [if_neg h2, show Nat.blt P.length 3 = false from Bool.eq_false_iff.2 (fun h => h2 (Nat.blt_eq ▸ h))]
  have hin : P.all insB = true ↔ InsI P := by
    unfold InsI
    rw [List.all_eq_true]
    exact forall_congr' fun s => forall_congr' fun _ => insB_iff s
  by_cases h3 : InsI P
  · rw [if_neg (fun h => h h3), hin.2 h3]
    by_cases h4 : SimpI P
    · rw [if_pos h4, (simpB_iff P).2 h4]; rfl
    · rw [if_neg h4, show simpB P = false from Bool.eq_false_iff.2 (fun h => h4 ((simpB_iff P).1 h))]; rfl
  · rw [if_pos h3, show P.all insB = false from Bool.eq_false_iff.2 (fun h => h3 (hin.1 h))]; rfl
end Pl
end
section
/- Chapter 13: where a point lies in respect of a triangle. -/
namespace Pl
open Go Geo Pm
theorem tcross_ok {a b c : IP} (ha : insP a) (hb : insP b) (hc : insP c) : callT CG [.v tI] 27 [.val t0 a, .val t0 b, .val t0 c] = some (crI a b c) :=
  callT_of (triangle_cross_st a b c (by rw [cross_w ha hb hc])) rfl
theorem covers_ok {a b c q : IP} (ha : insP a) (hb : insP b) (hc : insP c) (hq : insP q) : callT CG [.v .bool] 28 [.val t0 a, .val t0 b, .val t0 c, .val t0 q] = some (decide (0 ≤ crI a b q ∧ 0 ≤ crI b c q ∧ 0 ≤ crI c a q)) := by
  refine callT_of (triangle_covers_st a b c q (r := [.val .bool (decide (0 ≤ crI a b q ∧ 0 ≤ crI b c q ∧ 0 ≤ crI c a q))]) ?_) rfl
  refine bnd (tcross_ok ha hb hq) ?_
  by_cases h1 : crI a b q ≥ 0
  · refine pos (dt h1) (bnd (tcross_ok hb hc hq) ?_)
    by_cases h2 : crI b c q ≥ 0
    · refine pos (dt h2) (bnd (tcross_ok hc ha hq) ?_)
      rw [show decide (crI c a q ≥ (0 : Int)) = decide (0 ≤ crI a b q ∧ 0 ≤ crI b c q ∧ 0 ≤ crI c a q) from decide_eq_decide.2 ⟨fun h => ⟨h1, h2, h⟩, fun h => h.2.2⟩]
    · refine neg (df h2) ?_; rw [decide_eq_false (fun h => h2 h.2.1)]
  · refine neg (df h1) ?_; rw [decide_eq_false (fun h => h1 h.1)]
instance (s : IP) : Decidable (insP s) := inferInstanceAs (Decidable (_ ∧ _))
def three (t : List IP) (q : IP) : Prop := t.length = 3 ∧ insP (t.getD 0 (0, 0)) ∧ insP (t.getD 1 (0, 0)) ∧ insP (t.getD 2 (0, 0)) ∧ insP q
instance (t : List IP) (q : IP) : Decidable (three t q) := inferInstanceAs (Decidable (_ ∧ _))
def prop3 (t : List IP) : Prop := (t.length = 3 ∧ insP (t.getD 0 (0, 0)) ∧ insP (t.getD 1 (0, 0)) ∧ insP (t.getD 2 (0, 0))) ∧ crI (t.getD 0 (0, 0)) (t.getD 1 (0, 0)) (t.getD 2 (0, 0)) ≠ 0
instance (t : List IP) : Decidable (prop3 t) := inferInstanceAs (Decidable (_ ∧ _))
end Pl
end
section
/- The reference's normal form. -/
namespace Pl
open Go Geo Pm
theorem corn_ne {P : List IP} (h : chk P = 0) : corn P ≠ [] := by
  have := (chk_in (corn_of h).chk).1
  intro e
  rw [e] at this
  simp at this
theorem pnormal_ok (P : List IP) : callT CG [.v (.sl t0), .v tI] 8 [.val (.sl t0) P] = some (if chk P = 0 then nrm P else [], chk P) := normal_ok fun h => corn_ne h
theorem leastL_len (l : List IP) : (leastL l).length = l.length := (leastL_rotI (l := l)).len.symm
theorem nrm_len {P : List IP} : (nrm P).length ≤ P.length := by
  have hlen : (corn P).length ≤ P.length := cornTo_len P P.length
  unfold nrm
  rw [leastL_len]
  split
  · rw [List.length_reverse]; exact hlen
  · exact hlen
end Pl
end
section
/- Chapter 13: the triangles of a polygon: what the program computes. -/
namespace Pl
open Go Geo Pm
/-- the first from i on, or none -/
def fstB (p : Nat → Bool) : Nat → Nat → Option Nat
  | 0, _ => none
  | m + 1, i => if p i then some i else fstB p m (i + 1)
theorem fstB_some {p : Nat → Bool} : ∀ (m i : Nat) {j : Nat}, fstB p m i = some j → i ≤ j ∧ j < i + m ∧ p j = true ∧ ∀ k, i ≤ k → k < j → p k = false
  | 0, i, j, h => by cases h
  | m + 1, i, j, h => by
    unfold fstB at h
    by_cases hp : p i
    · rw [if_pos hp] at h; injection h with h; subst h; exact ⟨Nat.le_refl _, by omega, hp, fun k h1 h2 => by omega⟩
    · rw [if_neg hp] at h
      obtain ⟨h1, h2, h3, h4⟩ := fstB_some m (i + 1) h
      refine ⟨by omega, by omega, h3, fun k k1 k2 => ?_⟩
      by_cases e : k = i
      · rw [e]; simpa using hp
      · exact h4 k (by omega) k2
def oN : Option Nat → Int
  | some i => (i : Int)
  | none => -1
def bendI (P : List IP) (i : Nat) : Int := crI (nth P (i + P.length - 1)) (nth P i) (nth P (i + 1))
def strB (P : List IP) (i : Nat) : Bool := bendI P i == 0
def covB (a b c q : IP) : Bool := decide (0 ≤ crI a b q ∧ 0 ≤ crI b c q ∧ 0 ≤ crI c a q)
/-- no other vertex in the closed triangle, from the k-th on -/
def freeTo (P : List IP) (i : Nat) : Nat → Nat → Bool
  | 0, _ => true
  | m + 1, k => if k = (i + P.length - 1) % P.length ∨ k = i ∨ k = (i + 1) % P.length then freeTo P i m (k + 1) else if covB (nth P (i + P.length - 1)) (nth P i) (nth P (i + 1)) (nth P k) then false else freeTo P i m (k + 1)
def earB (P : List IP) (i : Nat) : Bool := decide (0 < bendI P i) && freeTo P i P.length 0
def tri (P : List IP) (i : Nat) : List IP := [nth P (i + P.length - 1), nth P i, nth P (i + 1)]
def tri0 (P : List IP) : List IP := [P.getD 0 (0, 0), P.getD 1 (0, 0), P.getD 2 (0, 0)]
/-- the triangles -/
def spl : Nat → List IP → List (List IP)
  | 0, P => [tri0 P]
  | m + 1, P => if P.length ≤ 3 then [tri0 P] else match fstB (strB P) P.length 0 with
    | some i => spl m (P.eraseIdx i)
    | none => match fstB (earB P) P.length 0 with
      | some i => tri P i :: spl m (P.eraseIdx i)
      | none => [tri0 P]
theorem split1_ok {P : List IP} (hb : InsI P) {i : Nat} (hi : i < P.length) : callT CG [.v .bool] 9 [.val tI (((i + P.length - 1) % P.length : Nat) : Int), .val tI (i : Int), .val tI (((i + 1) % P.length : Nat) : Int), .iptr (.sl t0) P] = some (strB P i) := by
  have h0 : 0 < P.length := by omega
  have hP : P ≠ [] := by rintro rfl; cases hi
  refine callT_of (triangle_Split_1_st _ _ _ _ (r := [.val .bool (strB P i)]) ?_) rfl
  simp only [Int.toNat_natCast]
  refine pos (ixn (Nat.mod_lt _ h0)) (pos (ixn hi) (pos (ixn (Nat.mod_lt _ h0)) ?_))
  rw [nth_getD hi]
  exact bnd (tcross_ok (insP_of hb hP (i + P.length - 1)) (insP_of hb hP i) (insP_of hb hP (i + 1))) rfl
theorem split2_lp {P : List IP} (hl : P.length ≤ 1000) (hb : InsI P) {i : Nat} (hi : i < P.length) {A B C : Int} {P3 : List IP} : ∀ (m k : Nat), k + m = P.length →
    triangle_Split_2_lp1 CG A B C P3 (((i + P.length - 1) % P.length : Nat) : Int) (i : Int) (((i + 1) % P.length : Nat) : Int) P P (P.length : Int) (k : Int) = some [.val .bool (freeTo P i m k)]
  | 0, k, h => triangle_Split_2_lp1_st _ _ _ _ _ _ _ _ _ _ _ (neg (ige (by omega)) rfl)
  | m + 1, k, h => by
    have h0 : 0 < P.length := by omega
    have hP : P ≠ [] := by rintro rfl; cases hi
    have hk : k < P.length := by omega
    have m1 := Nat.mod_lt (i + P.length - 1) h0
    have m2 := Nat.mod_lt (i + 1) h0
    have ih := split2_lp hl hb hi (A := A) (B := B) (C := C) (P3 := P3) m (k + 1) (by omega)
    refine triangle_Split_2_lp1_st _ _ _ _ _ _ _ _ _ _ _ ?_
    rw [wrS (by omega)]
    simp only [Int.toNat_natCast]
    refine pos (ilt hk) (pos (ixn hk) ?_)
    unfold freeTo
    by_cases h1 : k = (i + P.length - 1) % P.length
    · rw [if_pos (Or.inl h1)]; exact neg (by rw [bne_iff_ne]; omega) ih
    refine pos (by rw [bne_iff_ne]; omega) ?_
    by_cases h2 : k = i
    · rw [if_pos (Or.inr (Or.inl h2))]; exact neg (by rw [bne_iff_ne]; omega) ih
    refine pos (by rw [bne_iff_ne]; omega) ?_
    by_cases h3 : k = (i + 1) % P.length
    · rw [if_pos (Or.inr (Or.inr h3))]; exact neg (by rw [bne_iff_ne]; omega) ih
    refine pos (by rw [bne_iff_ne]; omega) (pos (ixn m1) (pos (ixn hi) (pos (ixn m2) ?_)))
    rw [nth_getD hi, nth_getD hk]
    refine bnd (covers_ok (insP_of hb hP (i + P.length - 1)) (insP_of hb hP i) (insP_of hb hP (i + 1)) (insP_of hb hP k)) ?_
    by_cases hc : covB (nth P (i + P.length - 1)) (nth P i) (nth P (i + 1)) (nth P k)
    · refine pos hc ?_
      rw [if_neg (show ¬ (k = (i + P.length - 1) % P.length ∨ k = i ∨ k = (i + 1) % P.length) by omega), if_pos hc]
    · refine neg hc ?_
      rw [if_neg (show ¬ (k = (i + P.length - 1) % P.length ∨ k = i ∨ k = (i + 1) % P.length) by omega), if_neg hc]
      exact ih
theorem split2_ok {P : List IP} (hl : P.length ≤ 1000) (hb : InsI P) {i : Nat} (hi : i < P.length) : callT CG [.v .bool] 10 [.val tI (((i + P.length - 1) % P.length : Nat) : Int), .val tI (i : Int), .val tI (((i + 1) % P.length : Nat) : Int), .iptr (.sl t0) P] = some (earB P i) := by
  have h0 : 0 < P.length := by omega
  have hP : P ≠ [] := by rintro rfl; cases hi
  refine callT_of (triangle_Split_2_st _ _ _ _ (r := [.val .bool (earB P i)]) ?_) rfl
  simp only [Int.toNat_natCast]
  refine pos (ixn (Nat.mod_lt _ h0)) (pos (ixn hi) (pos (ixn (Nat.mod_lt _ h0)) ?_))
  rw [nth_getD hi]
  refine bnd (tcross_ok (insP_of hb hP (i + P.length - 1)) (insP_of hb hP i) (insP_of hb hP (i + 1))) ?_
  have e : bendI P i = crI (nth P (i + P.length - 1)) (nth P i) (nth P (i + 1)) := rfl
  unfold earB
  by_cases hc : bendI P i ≤ 0
  · refine pos (dt (by rw [e] at hc; exact hc)) ?_
    rw [decide_eq_false (by omega)]; rfl
  · refine neg (df (by rw [e] at hc; exact hc)) ?_
    rw [decide_eq_true (by omega), Bool.true_and]
    exact split2_lp hl hb hi P.length 0 (by omega)
theorem find0_lp {P : List IP} (hl : P.length ≤ 1000) (hb : InsI P) : ∀ (m i : Nat), i + m = P.length →
    triangle_find_lp1 CG (P.length : Int) P (P.length : Int) P (P.length : Int) (i : Int) = some [.val tI (oN (fstB (strB P) m i))]
  | 0, i, h => triangle_find_lp1_st _ _ _ _ _ _ (neg (ige (by omega)) rfl)
  | m + 1, i, h => by
    have hi : i < P.length := by omega
    refine triangle_find_lp1_st _ _ _ _ _ _ ?_
    rw [prev_w (by omega) (by omega), wrS (by omega), tmod_nat]
    refine pos (ilt hi) (pos (by omega) (pos (by omega) (bnd (split1_ok hb hi) ?_)))
    unfold fstB
    by_cases hc : strB P i
    · refine pos hc ?_; rw [if_pos hc]; rfl
    · refine neg hc ?_; rw [if_neg hc]; exact find0_lp hl hb m (i + 1) (by omega)
theorem find0_ok {P : List IP} (hl : P.length ≤ 1000) (hb : InsI P) : callT CG [.v tI] 11 [.val tI (P.length : Int), .cloi 9 [⟨.sl t0, P⟩]] = some (oN (fstB (strB P) P.length 0)) :=
  callT_of (triangle_find_st (P.length : Int) P (find0_lp hl hb P.length 0 (by omega))) rfl
theorem find1_lp {P : List IP} (hl : P.length ≤ 1000) (hb : InsI P) : ∀ (m i : Nat), i + m = P.length →
    triangle_find_1_lp1 CG (P.length : Int) P (P.length : Int) P (P.length : Int) (i : Int) = some [.val tI (oN (fstB (earB P) m i))]
  | 0, i, h => triangle_find_1_lp1_st _ _ _ _ _ _ (neg (ige (by omega)) rfl)
  | m + 1, i, h => by
    have hi : i < P.length := by omega
    refine triangle_find_1_lp1_st _ _ _ _ _ _ ?_
    rw [prev_w (by omega) (by omega), wrS (by omega), tmod_nat]
    refine pos (ilt hi) (pos (by omega) (pos (by omega) (bnd (split2_ok hl hb hi) ?_)))
    unfold fstB
    by_cases hc : earB P i
    · refine pos hc ?_; rw [if_pos hc]; rfl
    · refine neg hc ?_; rw [if_neg hc]; exact find1_lp hl hb m (i + 1) (by omega)
theorem find1_ok {P : List IP} (hl : P.length ≤ 1000) (hb : InsI P) : callT CG [.v tI] 11 [.val tI (P.length : Int), .cloi 10 [⟨.sl t0, P⟩]] = some (oN (fstB (earB P) P.length 0)) :=
  callT_of (triangle_find_1_st (P.length : Int) P (find1_lp hl hb P.length 0 (by omega))) rfl
theorem without_ok {P : List IP} (hl : P.length ≤ 1000) {i : Nat} (hi : i < P.length) : callT CG [.o t0] 12 [.val (.sl t0) P, .val tI ((i : Nat) : Int)] = some (P.eraseIdx i) := by
  refine callT_of (triangle_without_st P i (r := [.own t0 (P.eraseIdx i)]) ?_) rfl
  have e1 : copyTo (List.replicate (P.length - 1) ((0, 0) : IP)) 0 (P.take i) = P.take i ++ List.replicate (P.length - 1 - i) (0, 0) := by
    unfold copyTo
    rw [List.take_zero, List.nil_append, List.length_take, List.length_replicate, Nat.zero_add, Nat.sub_zero, show min (min i P.length) (P.length - 1) = i by omega, List.take_take, Nat.min_self, List.drop_replicate]
  have l1 : (copyTo (List.replicate (P.length - 1) ((0, 0) : IP)) 0 (P.take i)).length = P.length - 1 := by
    rw [e1]; simp; omega
  have e2 : copyTo (copyTo (List.replicate (P.length - 1) ((0, 0) : IP)) 0 (P.take i)) i (P.drop (i + 1)) = P.eraseIdx i := by
    unfold copyTo at l1 ⊢
    rw [show List.take 0 (List.replicate (P.length - 1) ((0, 0) : IP)) ++ List.take (min (P.take i).length ((List.replicate (P.length - 1) ((0, 0) : IP)).length - 0)) (P.take i) ++ List.drop (0 + min (P.take i).length ((List.replicate (P.length - 1) ((0, 0) : IP)).length - 0)) (List.replicate (P.length - 1) ((0, 0) : IP)) = P.take i ++ List.replicate (P.length - 1 - i) (0, 0) from e1]
    rw [List.length_append, List.length_take, List.length_replicate, List.length_drop, show min (P.length - (i + 1)) (min i P.length + (P.length - 1 - i) - i) = P.length - (i + 1) by omega]
    have a1 : List.take i (P.take i ++ List.replicate (P.length - 1 - i) ((0, 0) : IP)) = P.take i := by
      rw [List.take_append_of_le_length (by simp; omega), List.take_take, Nat.min_self]
    have a2 : List.take (P.length - (i + 1)) (P.drop (i + 1)) = P.drop (i + 1) := List.take_of_length_le (by simp)
    have a3 : List.drop (i + (P.length - (i + 1))) (P.take i ++ List.replicate (P.length - 1 - i) ((0, 0) : IP)) = [] := List.drop_of_length_le (by simp; omega)
    rw [a1, a2, a3, List.append_nil, List.eraseIdx_eq_take_drop_succ]
  rw [wr64 (x := (P.length : Int) - 1) (by omega) (by omega), show (P.length : Int) - 1 = ((P.length - 1 : Nat) : Int) by omega, wrS (by omega)]
  simp only [Int.toNat_natCast]
  rw [e2, l1]
  exact pos (by omega) (pos (by omega) (pos (by omega) (pos (by omega) rfl)))
theorem erase_ins {P : List IP} (hb : InsI P) (i : Nat) : InsI (P.eraseIdx i) := fun s hs => hb s (List.mem_of_mem_eraseIdx hs)
theorem split_fin {P : List IP} {acc : List (List IP)} (h3 : 3 ≤ P.length) (ha : acc.length < 1000) : (if (0 ≤ (0 : Int) ∧ (0 : Int) < ((List.length P : Nat) : Int)) then (if (0 ≤ (1 : Int) ∧ (1 : Int) < ((List.length P : Nat) : Int)) then (if (0 ≤ (2 : Int) ∧ (2 : Int) < ((List.length P : Nat) : Int)) then (if (List.length acc + List.length ([([(List.getD P (Int.toNat (0 : Int)) ((0 : Int), (0 : Int))), (List.getD P (Int.toNat (1 : Int)) ((0 : Int), (0 : Int))), (List.getD P (Int.toNat (2 : Int)) ((0 : Int), (0 : Int)))] : List (Int × Int))] : List (List (Int × Int))) < 5864062014805) then (some [D.own (.sl t0) (acc ++ ([([(List.getD P (Int.toNat (0 : Int)) ((0 : Int), (0 : Int))), (List.getD P (Int.toNat (1 : Int)) ((0 : Int), (0 : Int))), (List.getD P (Int.toNat (2 : Int)) ((0 : Int), (0 : Int)))] : List (Int × Int))] : List (List (Int × Int)))), .val tI (0 : Int)]) else none) else none) else none) else none) = some [D.own (.sl t0) (acc ++ [tri0 P]), .val tI 0] :=
  pos (by omega) (pos (by omega) (pos (by omega) (pos (by simp; omega) rfl)))
theorem split_lp2 {Q : List IP} : ∀ (m : Nat) (P : List IP) (acc : List (List IP)), P.length ≤ m + 3 → 3 ≤ P.length → InsI P → P.length ≤ 100 → acc.length + P.length ≤ 900 →
    triangle_Split_lp2 CG Q acc P = some [.own (.sl t0) (acc ++ spl m P), .val tI 0]
  | 0, P, acc, h, h3, hb, hl, ha => triangle_Split_lp2_st _ _ _ (neg (df (by omega)) (split_fin h3 (by omega)))
  | m + 1, P, acc, h, h3, hb, hl, ha => by
    refine triangle_Split_lp2_st _ _ _ ?_
    unfold spl
    by_cases hc : P.length ≤ 3
    · rw [if_pos hc]
      exact neg (df (by omega)) (split_fin h3 (by omega))
    rw [if_neg hc]
    have hP : P ≠ [] := by rintro rfl; simp at h3
    refine pos (dt (by omega)) (bnd (find0_ok (by omega) hb) ?_)
    cases hf : fstB (strB P) P.length 0 with
    | some i =>
      obtain ⟨_, hi, _⟩ := fstB_some _ _ hf
      have hlen := List.length_eraseIdx_of_lt (show i < P.length by omega)
      refine pos (dt (by simp only [oN]; omega)) (bnd (without_ok (by omega) (by omega)) ?_)
      exact split_lp2 m (P.eraseIdx i) acc (by omega) (by omega) (erase_ins hb i) (by omega) (by omega)
    | none =>
      refine neg (df (by simp only [oN]; omega)) (bnd (find1_ok (by omega) hb) ?_)
      cases he : fstB (earB P) P.length 0 with
      | none => exact pos (dt (by simp only [oN]; omega)) (split_fin h3 (by omega))
      | some i =>
        obtain ⟨_, hi, _⟩ := fstB_some _ _ he
        have hlen := List.length_eraseIdx_of_lt (show i < P.length by omega)
        have m1 := Nat.mod_lt (i + P.length - 1) (show 0 < P.length by omega)
        have m2 := Nat.mod_lt (i + 1) (show 0 < P.length by omega)
        simp only [oN]
        refine neg (df (by omega)) ?_
        have w1 := prev_w (n := P.length) (i := i) (by omega) (by omega)
        have w2 := wrS (i := i) (by omega)
        simp only [w1, w2, tmod_nat, Int.toNat_natCast]
        refine pos (by omega) (pos (by omega) (pos (by omega) (pos (by omega) (pos (by omega) (pos (by simp; omega) (bnd (without_ok (by omega) (by omega)) ?_))))))
        have ih := split_lp2 (Q := Q) m (P.eraseIdx i) (acc ++ [tri P i]) (by omega) (by omega) (erase_ins hb i) (by omega) (by simp; omega)
        rw [List.append_assoc] at ih
        rw [nth_getD (show i < P.length by omega)]
        exact ih
noncomputable def triE (P : List IP) : List (List IP) := if chk P = 0 then spl 60 (nrm P) else []
theorem split_lp1 {Q : List IP} (P : List IP) (h3 : 3 ≤ P.length) (hb : InsI P) (hl : P.length ≤ 60) : triangle_Split_lp1 CG Q P [] = some [.own (.sl t0) (spl 60 P), .val tI 0] := by
  refine triangle_Split_lp1_st _ _ _ ?_
  rw [show spl 60 P = if P.length ≤ 3 then [tri0 P] else (match fstB (strB P) P.length 0 with | some i => spl 59 (P.eraseIdx i) | none => match fstB (earB P) P.length 0 with | some i => tri P i :: spl 59 (P.eraseIdx i) | none => [tri0 P]) from rfl]
  by_cases hc : P.length ≤ 3
  · rw [if_pos hc]
    exact neg (df (by omega)) (split_fin h3 (by simp))
  rw [if_neg hc]
  refine pos (dt (by omega)) (bnd (find0_ok (by omega) hb) ?_)
  cases hf : fstB (strB P) P.length 0 with
  | some i =>
    obtain ⟨_, hi, _⟩ := fstB_some _ _ hf
    have hlen := List.length_eraseIdx_of_lt (show i < P.length by omega)
    refine pos (dt (by simp only [oN]; omega)) (bnd (without_ok (by omega) (by omega)) ?_)
    exact split_lp2 59 (P.eraseIdx i) [] (by omega) (by omega) (erase_ins hb i) (by omega) (by simp; omega)
  | none =>
    refine neg (df (by simp only [oN]; omega)) (bnd (find1_ok (by omega) hb) ?_)
    cases he : fstB (earB P) P.length 0 with
    | none => exact pos (dt (by simp only [oN]; omega)) (split_fin h3 (by simp))
    | some i =>
      obtain ⟨_, hi, _⟩ := fstB_some _ _ he
      have hlen := List.length_eraseIdx_of_lt (show i < P.length by omega)
      have m1 := Nat.mod_lt (i + P.length - 1) (show 0 < P.length by omega)
      have m2 := Nat.mod_lt (i + 1) (show 0 < P.length by omega)
      simp only [oN]
      refine neg (df (by omega)) ?_
      have w1 := prev_w (n := P.length) (i := i) (by omega) (by omega)
      have w2 := wrS (i := i) (by omega)
      simp only [w1, w2, tmod_nat, Int.toNat_natCast]
      refine pos (by omega) (pos (by omega) (pos (by omega) (pos (by omega) (pos (by omega) (pos (by simp) (bnd (without_ok (by omega) (by omega)) ?_))))))
      have ih := split_lp2 (Q := Q) 59 (P.eraseIdx i) [tri P i] (by omega) (by omega) (erase_ins hb i) (by omega) (by simp; omega)
      rw [nth_getD (show i < P.length by omega)]
      exact ih
end Pl
namespace Pl
open Go Geo Pm
theorem ptri_cg (P : List IP) : CG 6 [.val (.sl t0) P] = some [.own (.sl t0) (triE P), .val tI (chk P)] := by
  refine triangle_Split_st P ?_
  refine bnd (pnormal_ok P) ?_
  unfold triE
  by_cases h : chk P = 0
  · have hn := nrm_len (P := P)
    obtain ⟨_, h40, hb, _⟩ := chk_in h
    have hc := corn_of h
    have hl3 := (chk_in hc.chk).1
    have hmem : InsI (nrm P) := fun s hs => by
      unfold nrm at hs
      have hs := (leastL_rotI.mem s).2 hs
      split at hs
      · exact hb s (hc.sub.subset (List.mem_reverse.1 hs))
      · exact hb s (hc.sub.subset hs)
    have h3 : 3 ≤ (nrm P).length := by
      unfold nrm
      rw [leastL_len]
      split
      · rw [List.length_reverse]; exact hl3
      · exact hl3
    simp only [if_pos h]
    rw [h]
    exact neg (by simp) (split_lp1 (nrm P) h3 hmem (by omega))
  · simp only [if_neg h]
    exact pos (nn0 h) rfl
theorem ptri_ok (P : List IP) : callT CG [.o (.sl t0), .v tI] 6 [.val (.sl t0) P] = some (triE P, chk P) := callT_of (ptri_cg P) rfl
end Pl
end
section
/- Chapter 15: lines across polygons. -/
namespace Pl
open Go Geo Pm
noncomputable def crosM (P : List IP) (x : Int) : Bool := if chk P = 0 then decide (minX P < x ∧ x < maxX P) else false
theorem crosses_ok (P : List IP) (x : Int) : callT CG [.v .bool, .v tI] 146 [.val (.sl t0) P, .val tI x] = some (crosM P x, chk P) := by
  refine callT_of (overlap_Crosses_st P x (r := [.val .bool (crosM P x), .val tI (chk P)]) ?_) rfl
  refine bnd (box_ok P) ?_
  unfold crosM
  by_cases h : chk P = 0
  · obtain ⟨h3, h40, hb, hne, _⟩ := chk_in h
    obtain ⟨m1, m2, m3, m4⟩ := min_in hne hb
    unfold insI at m1 m2
    rw [show boxI P = (minX P, minY P, maxX P - minX P, maxY P - minY P) from if_pos h, if_pos h, h]
    refine neg (by simp) ?_
    dsimp only
    rw [wr64 (by omega) (by omega)]
    by_cases h1 : minX P < x
    · refine pos (dt h1) ?_
      rw [show decide (x < minX P + (maxX P - minX P)) = decide (minX P < x ∧ x < maxX P) from decide_eq_decide.2 (by omega)]
    · refine neg (df h1) ?_
      rw [decide_eq_false (show ¬ (minX P < x ∧ x < maxX P) by omega)]
  · refine pos (nn0 h) ?_
    rw [if_neg h]
theorem rcros_lp {P : List IP} (hl : P.length ≤ 1000) {x : Int} : ∀ (m i : Nat), i + m = P.length → ∀ a b : Int,
    garmentref15_Crosses_lp1 CG P x P x a b (i : Int) = some [.val .bool (decide ((P.drop i).foldl (fun m s => min m s.1) a < x ∧ x < (P.drop i).foldl (fun m s => max m s.1) b)), .val tI 0]
  | 0, i, h, a, b => by
    refine garmentref15_Crosses_lp1_st _ _ _ _ _ _ _ (neg (ige (by omega)) ?_)
    rw [List.drop_of_length_le (by omega)]
    show _ = some [D.val .bool (decide (a < x ∧ x < b)), .val tI 0]
    by_cases h1 : a < x
    · refine pos (dt h1) ?_
      rw [show decide (x < b) = decide (a < x ∧ x < b) from decide_eq_decide.2 (by omega)]
    · refine neg (df h1) ?_
      rw [decide_eq_false (show ¬ (a < x ∧ x < b) by omega)]
  | m + 1, i, h, a, b => by
    have hi : i < P.length := by omega
    refine garmentref15_Crosses_lp1_st _ _ _ _ _ _ _ ?_
    rw [wrS (by omega), Int.toNat_natCast, getD_eq hi, drop_cons hi]
    refine pos (ilt hi) (pos (ixn hi) (pos (ixn hi) ?_))
    have ih := rcros_lp hl (x := x) m (i + 1) (by omega) (min a P[i].1) (max b P[i].1)
    rw [show (if P[i].1 < a then P[i].1 else a) = min a P[i].1 by omega, show (if P[i].1 > b then P[i].1 else b) = max b P[i].1 by omega]
    exact ih
theorem rcrosses_ok (P : List IP) (x : Int) : callT CG [.v .bool, .v tI] 166 [.val (.sl t0) P, .val tI x] = some (crosM P x, chk P) := by
  refine callT_of (garmentref15_Crosses_st P x (r := [.val .bool (crosM P x), .val tI (chk P)]) ?_) rfl
  refine bnd (rcheck_ok P) ?_
  unfold crosM
  by_cases h : chk P = 0
  · obtain ⟨h3, h40, hb, hne, _⟩ := chk_in h
    refine neg (nz h) ?_
    rw [if_pos h, h, show (Int.toNat (0 : Int)) = 0 from rfl]
    refine pos (by omega) (pos (by omega) ?_)
    obtain ⟨s, l, rfl⟩ : ∃ s l, P = s :: l := by cases P with
      | nil => exact absurd rfl hne
      | cons s l => exact ⟨s, l, rfl⟩
    refine Eq.trans (rcros_lp (P := s :: l) (by omega) ((s :: l).length - 1) 1 (by simp; omega) s.1 s.1) ?_
    have e1 : l.foldl (fun m s => min m s.1) s.1 = minX (s :: l) := by unfold minX; simp only [List.headD_cons, List.foldl_cons, Int.min_self]
    have e2 : l.foldl (fun m s => max m s.1) s.1 = maxX (s :: l) := by unfold maxX; simp only [List.headD_cons, List.foldl_cons, Int.max_self]
    rw [show List.drop 1 (s :: l) = l from rfl, e1, e2]
  · refine pos (nn0 h) ?_
    rw [if_neg h]
end Pl
end
