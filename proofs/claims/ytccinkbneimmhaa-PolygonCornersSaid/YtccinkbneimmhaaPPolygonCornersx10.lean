/- Written by a program of this session out of the translation. -/
import Derived.Test.YtccinkbneimmhaaPPolygonCornersx0
import Derived.Test.YtccinkbneimmhaaPPolygonCornersx1
import Derived.Test.YtccinkbneimmhaaPPolygonCornersx3
import Derived.Test.YtccinkbneimmhaaPPolygonCornersx7
namespace Go.Proofs.Ytccinkbneimmhaa.PPolygonCorners
open Go.RowKit Go.Proofs.YtccinkbneimmhaaW.PrintWords Go.Proofs.YtccinkbneimmhaaW.PrintLast Go.Proofs.YtccinkbneimmhaaW.PrintMore
attribute [local go_sem] max2_int min2_int max_two min_two max_three min_three max_four min_four   -- for this text's walks alone
set_option linter.unusedVariables false
set_option linter.unusedSimpArgs false
attribute [local go_sem high] eqA30
/-! ### garmentref11_Same: function 16 -/
def garmentref11_Same.l0 : Nat → List (S30) → List (S30) → Int → Option (Bool)
 | 0, _, _, _ => none
 | k + 1, x0, x1, x5 => if x5 < (x0.length : Int) then (if 0 ≤ x5 then (if x5 < (x1.length : Int) then (if (!(((rd_T30 x0 x5).f0) == ((rd_T30 x1 x5).f0)) || (!(((rd_T30 x0 x5).f1) == ((rd_T30 x1 x5).f1)))) = true then (some false) else (garmentref11_Same.l0 k x0 x1 (wrap64 (x5 + 1)))) else (none)) else (none)) else (some true)
def garmentref11_Same.f (k : Nat) (l0 : List (S30)) (l1 : List (S30)) : Option (Bool) := if (l0.length : Int) = (l1.length : Int) then (garmentref11_Same.l0 k l0 l1 0) else (some false)
theorem garmentref11_Same.mono_l : ∀ k, (∀ y0 y1 y2, LeO (garmentref11_Same.l0 k y0 y1 y2) (garmentref11_Same.l0 (k + 1) y0 y1 y2))
 | 0 => fun _ _ _ r h => by simp [garmentref11_Same.l0] at h
 | k + 1 => by
  have ih0 := garmentref11_Same.mono_l k
  ·intro y0 y1 y2
   unfold garmentref11_Same.l0
   repeat' first
   | (with_reducible exact ih0 _ _ _)
   | (with_reducible exact LeO.refl _)
   | (with_reducible exact LeO.none _)
   | (with_reducible refine LeO.ite ?_ ?_)
   | (with_reducible refine LeO.bind ?_ (fun _ => ?_))
   | exact ih0 _ _ _
   | exact LeO.none _
   | refine LeO.ite ?_ ?_
   | refine LeO.bind ?_ (fun _ => ?_)
theorem garmentref11_Same.mono : ∀ a0 a1 k, LeO (garmentref11_Same.f k a0 a1) (garmentref11_Same.f (k + 1) a0 a1) := by
 intro a0 a1 k
 have ih0 := garmentref11_Same.mono_l k
 unfold garmentref11_Same.f
 repeat' first
   | (with_reducible exact ih0 _ _ _)
   | (with_reducible exact LeO.refl _)
   | (with_reducible exact LeO.none _)
   | (with_reducible refine LeO.ite ?_ ?_)
   | (with_reducible refine LeO.bind ?_ (fun _ => ?_))
   | exact ih0 _ _ _
   | exact LeO.none _
   | refine LeO.ite ?_ ?_
   | refine LeO.bind ?_ (fun _ => ?_)
set_option maxHeartbeats 8000000 in
set_option maxRecDepth 100000 in
theorem garmentref11_Same.calls (k : Nat) (A0 : Option Addr) (c0 : Nat) (l0 : List (S30)) (A1 : Option Addr) (c1 : Nat) (l1 : List (S30)) (r : Bool) (w : World) (hr0 : Kd.C k30 w A0 l0.length l0) (hc0 : l0.length ≤ c0) (hr1 : Kd.C k30 w A1 l1.length l1) (hc1 : l1.length ≤ c1) (h : garmentref11_Same.f k l0 l1 = some r) :
  Calls Try.prog 16 #[.slice A0 l0.length c0, .slice A1 l1.length c1] w fun e w' => e = .returned (.bool r) ∧ Drawn0 w w' := by
 have hu30 := Try.underlying30
 have HR0 := Aside0.mk hr0
 have HC0 := Aside0.mk hc0
 clear hr0 hc0
 have HR1 := Aside0.mk hr1
 have HC1 := Aside0.mk hc1
 clear hr1 hc1
 have H : (if (l0.length : Int) = (l1.length : Int) then (garmentref11_Same.l0 k l0 l1 0) else (some false)) = some r := h
 clear h
 by_cases c3 : (l0.length : Int) = (l1.length : Int)
 ·rw [if_pos c3] at H
  have c3b0 : ((l0.length : Int) == (l1.length : Int)) = true := beq_iff_eq.mpr c3
  have c3b1 : ((l0.length : Int) != (l1.length : Int)) = false := bne_eq_false_iff_eq.mpr c3
  have c3b2 : (l0.length == l1.length) = true := by first | simpa using c3 | (simp at c3 ⊢; omega)
  clear c3
  have H' := Aside0.mk H
  clear H
  go_enter Try.func16, Try.ntmps16
  go_wp2
  repeat (go_quiet (fail); try go_wp2)
  go_loopg [5] k (fun kq v5 w' => ∃ (x5_1 : Int), v5 = .int .i64 x5_1 ∧ Aside0 (garmentref11_Same.l0 kq l0 l1 x5_1 = some r) ∧ Aside0 (kq ≤ k) ∧ Drawn0 w w')
  case atStart => exact ⟨(0), (by first | rfl | (simp; done) | (simp [*]; done)), H', ⟨Nat.le_refl _⟩, by repeat (first | exact Drawn0.refl _ | apply Drawn0.step)⟩
  case round =>
   clear H'
   try clear c1
   try clear p2
   try clear c3
   try clear c3b0
   try clear c3b1
   try clear c3b2
   obtain ⟨x5_1, rfl, HA, HK1, ⟨m1, rfl⟩⟩ := hrel
   cases gk with
   | zero => exact absurd HA.out (by simp [garmentref11_Same.l0])
   | succ k1 =>
    have H := HA.out
    clear HA
    simp only [garmentref11_Same.l0] at H
    by_cases c4 : x5_1 < (l0.length : Int)
    ·rw [if_pos c4] at H
     have c4b0 : decide (x5_1 < (l0.length : Int)) = true := decide_eq_true c4
     clear c4
     by_cases c5 : 0 ≤ x5_1
     ·rw [if_pos c5] at H
      have c5b0 : decide (0 ≤ x5_1) = true := decide_eq_true c5
      clear c5
      by_cases c6 : x5_1 < (l1.length : Int)
      ·rw [if_pos c6] at H
       have c6b0 : decide (x5_1 < (l1.length : Int)) = true := decide_eq_true c6
       clear c6
       by_cases c7 : (!(((rd_T30 l0 x5_1).f0) == ((rd_T30 l1 x5_1).f0)) || (!(((rd_T30 l0 x5_1).f1) == ((rd_T30 l1 x5_1).f1)))) = true
       ·rw [if_pos c7] at H
        have c7b0 : (!(((rd_T30 l0 x5_1).f0) == ((rd_T30 l1 x5_1).f0)) || (!(((rd_T30 l0 x5_1).f1) == ((rd_T30 l1 x5_1).f1)))) = true := c7
        clear c7
        obtain rfl := Option.some.inj H
        have p203 : 0 ≤ (x5_1 : Int) := of_decide_eq_true (by first | (with_reducible assumption) | assumption)
        have q203 : x5_1 < (l0.length : Int) := of_decide_eq_true (by first | (with_reducible assumption) | assumption)
        obtain ⟨ad203, e203, hx203_0, hx203_1⟩ := at_T30 HR0.out x5_1 p203 q203
        cases e203
        replace p203 := eq_true p203
        replace q203 := eq_true q203
        have p204 : 0 ≤ (x5_1 : Int) := of_decide_eq_true (by first | (with_reducible assumption) | assumption)
        have q204 : x5_1 < (l1.length : Int) := of_decide_eq_true (by first | (with_reducible assumption) | assumption)
        obtain ⟨ad204, e204, hx204_0, hx204_1⟩ := at_T30 HR1.out x5_1 p204 q204
        cases e204
        replace p204 := eq_true p204
        replace q204 := eq_true q204
        go_wp2
        repeat (go_quiet (fail); try go_wp2)
        go_ret
        exact ⟨by first | rfl | (simp; done) | (simp [*]; done), by repeat (first | exact Drawn0.refl _ | apply Drawn0.step)⟩
       ·rw [if_neg c7] at H
        have c7b0 : (!(((rd_T30 l0 x5_1).f0) == ((rd_T30 l1 x5_1).f0)) || (!(((rd_T30 l0 x5_1).f1) == ((rd_T30 l1 x5_1).f1)))) = false := by simpa using c7
        clear c7
        have H' := Aside0.mk H
        clear H
        have p203 : 0 ≤ (x5_1 : Int) := of_decide_eq_true (by first | (with_reducible assumption) | assumption)
        have q203 : x5_1 < (l0.length : Int) := of_decide_eq_true (by first | (with_reducible assumption) | assumption)
        obtain ⟨ad203, e203, hx203_0, hx203_1⟩ := at_T30 HR0.out x5_1 p203 q203
        cases e203
        replace p203 := eq_true p203
        replace q203 := eq_true q203
        have p204 : 0 ≤ (x5_1 : Int) := of_decide_eq_true (by first | (with_reducible assumption) | assumption)
        have q204 : x5_1 < (l1.length : Int) := of_decide_eq_true (by first | (with_reducible assumption) | assumption)
        obtain ⟨ad204, e204, hx204_0, hx204_1⟩ := at_T30 HR1.out x5_1 p204 q204
        cases e204
        replace p204 := eq_true p204
        replace q204 := eq_true q204
        go_wp2
        repeat (go_quiet (fail); try go_wp2)
        go_roundg k1
        case measure => have := HK1.out; omega
        case rel => exact ⟨(wrap64 (x5_1 + 1)), (by first | rfl | (simp; done) | (simp [*]; done)), H', ⟨by have := HK1.out; omega⟩, by repeat (first | exact Drawn0.refl _ | apply Drawn0.step)⟩
      ·rw [if_neg c6] at H
       exact absurd H (by simp)
     ·rw [if_neg c5] at H
      exact absurd H (by simp)
    ·rw [if_neg c4] at H
     have c4b0 : decide (x5_1 < (l0.length : Int)) = false := decide_eq_false c4
     clear c4
     obtain rfl := Option.some.inj H
     go_wp2
     repeat (go_quiet (fail); try go_wp2)
     go_ret
     exact ⟨by first | rfl | (simp; done) | (simp [*]; done), by repeat (first | exact Drawn0.refl _ | apply Drawn0.step)⟩
 ·rw [if_neg c3] at H
  have c3b0 : ((l0.length : Int) == (l1.length : Int)) = false := beq_eq_false_iff_ne.mpr c3
  have c3b1 : ((l0.length : Int) != (l1.length : Int)) = true := bne_iff_ne.mpr c3
  have c3b2 : (l0.length == l1.length) = false := by first | simpa using c3 | (simp at c3 ⊢; omega)
  obtain rfl := Option.some.inj H
  go_enter Try.func16, Try.ntmps16
  go_wp2
  repeat (go_quiet (fail); try go_wp2)
  go_ret
  exact ⟨by first | rfl | (simp; done) | (simp [*]; done), by repeat (first | exact Drawn0.refl _ | apply Drawn0.step)⟩
/-! ### polygon_Where: function 17 -/
mutual
def polygon_Where.j0 : Nat → List (S30) → Bool → Int → Int → Option (Int × Int)
 | 0, _, _, _, _ => none
 | k + 1, x0, x25, x206000, x206001 => if x25 = true then (some ((-1), 0)) else ((polygon_sides.f k x0).bind fun t209 => (polygon_Where.l0 k 0 t209 (t209.length : Int) 0 x206000 x206001))
def polygon_Where.l0 : Nat → Int → List (S57) → Int → Int → Int → Int → Option (Int × Int)
 | 0, _, _, _, _, _, _ => none
 | k + 1, x7, x27, x28, x29, x206000, x206001 => if x29 < x28 then (if 0 ≤ x29 then (if x29 < (x27.length : Int) then ((polygon_side_holds.f ((rd_T57 x27 x29).f0.f0) ((rd_T57 x27 x29).f0.f1) ((rd_T57 x27 x29).f1.f0) ((rd_T57 x27 x29).f1.f1) x206000 x206001).bind fun t214 => (if t214 = true then (some (0, 0)) else ((polygon_turn.f ((rd_T57 x27 x29).f0.f0) ((rd_T57 x27 x29).f0.f1) ((rd_T57 x27 x29).f1.f0) ((rd_T57 x27 x29).f1.f1) x206000 x206001).bind fun t215 => (if ((rd_T57 x27 x29).f0.f1) ≤ x206001 then (if ((rd_T57 x27 x29).f1.f1) > x206001 then (polygon_Where.j2 k x7 t215 x27 x28 x29 (decide (t215 > 0)) x206000 x206001 ((rd_T57 x27 x29).f0.f0) ((rd_T57 x27 x29).f0.f1) ((rd_T57 x27 x29).f1.f0) ((rd_T57 x27 x29).f1.f1)) else (polygon_Where.j2 k x7 t215 x27 x28 x29 false x206000 x206001 ((rd_T57 x27 x29).f0.f0) ((rd_T57 x27 x29).f0.f1) ((rd_T57 x27 x29).f1.f0) ((rd_T57 x27 x29).f1.f1))) else (polygon_Where.j2 k x7 t215 x27 x28 x29 false x206000 x206001 ((rd_T57 x27 x29).f0.f0) ((rd_T57 x27 x29).f0.f1) ((rd_T57 x27 x29).f1.f0) ((rd_T57 x27 x29).f1.f1)))))) else (none)) else (none)) else (if x7 = 0 then (some ((-1), 0)) else (some (1, 0)))
def polygon_Where.j2 : Nat → Int → Int → List (S57) → Int → Int → Bool → Int → Int → Int → Int → Int → Int → Option (Int × Int)
 | 0, _, _, _, _, _, _, _, _, _, _, _, _ => none
 | k + 1, x7, x10, x27, x28, x29, x42, x206000, x206001, x214000, x214001, x214002, x214003 => if x42 = true then (polygon_Where.l0 k (wrap64 (x7 + 1)) x27 x28 (wrap64 (x29 + 1)) x206000 x206001) else (if x214001 > x206001 then (if x214003 ≤ x206001 then (if x10 < 0 then (polygon_Where.l0 k (wrap64 (x7 - 1)) x27 x28 (wrap64 (x29 + 1)) x206000 x206001) else (polygon_Where.l0 k x7 x27 x28 (wrap64 (x29 + 1)) x206000 x206001)) else (polygon_Where.l0 k x7 x27 x28 (wrap64 (x29 + 1)) x206000 x206001)) else (polygon_Where.l0 k x7 x27 x28 (wrap64 (x29 + 1)) x206000 x206001))
end
def polygon_Where.f (k : Nat) (l0 : List (S30)) (a1_0 : Int) (a1_1 : Int) : Option (Int × Int) := (polygon_Check.f k l0).bind fun t206 => (if t206 = 0 then ((polygon_inside.f a1_0).bind fun t207 => (if t207 = true then ((polygon_inside.f a1_1).bind fun t208 => (polygon_Where.j0 k l0 (!t208) a1_0 a1_1)) else (polygon_Where.j0 k l0 true a1_0 a1_1))) else (some (0, t206)))
theorem polygon_Where.mono_l : ∀ k, (∀ y0 y1 y2 y3, LeO (polygon_Where.j0 k y0 y1 y2 y3) (polygon_Where.j0 (k + 1) y0 y1 y2 y3)) ∧ (∀ y0 y1 y2 y3 y4 y5, LeO (polygon_Where.l0 k y0 y1 y2 y3 y4 y5) (polygon_Where.l0 (k + 1) y0 y1 y2 y3 y4 y5)) ∧ (∀ y0 y1 y2 y3 y4 y5 y6 y7 y8 y9 y10 y11, LeO (polygon_Where.j2 k y0 y1 y2 y3 y4 y5 y6 y7 y8 y9 y10 y11) (polygon_Where.j2 (k + 1) y0 y1 y2 y3 y4 y5 y6 y7 y8 y9 y10 y11))
 | 0 => ⟨fun _ _ _ _ r h => by simp [polygon_Where.j0] at h, fun _ _ _ _ _ _ r h => by simp [polygon_Where.l0] at h, fun _ _ _ _ _ _ _ _ _ _ _ _ r h => by simp [polygon_Where.j2] at h⟩
 | k + 1 => by
  obtain ⟨ih0, ih1, ih2⟩ := polygon_Where.mono_l k
  refine ⟨?_, ?_, ?_⟩
  ·intro y0 y1 y2 y3
   unfold polygon_Where.j0
   repeat' first
   | (with_reducible exact ih0 _ _ _ _)
   | (with_reducible exact ih1 _ _ _ _ _ _)
   | (with_reducible exact ih2 _ _ _ _ _ _ _ _ _ _ _ _)
   | (with_reducible exact polygon_Check.mono _ _)
   | (with_reducible exact polygon_sides.mono _ _)
   | (with_reducible exact LeO.refl _)
   | (with_reducible exact LeO.none _)
   | (with_reducible refine LeO.ite ?_ ?_)
   | (with_reducible refine LeO.bind ?_ (fun _ => ?_))
   | exact ih0 _ _ _ _
   | exact ih1 _ _ _ _ _ _
   | exact ih2 _ _ _ _ _ _ _ _ _ _ _ _
   | exact polygon_Check.mono _ _
   | exact polygon_sides.mono _ _
   | exact LeO.none _
   | refine LeO.ite ?_ ?_
   | refine LeO.bind ?_ (fun _ => ?_)
  ·intro y0 y1 y2 y3 y4 y5
   unfold polygon_Where.l0
   repeat' first
   | (with_reducible exact ih0 _ _ _ _)
   | (with_reducible exact ih1 _ _ _ _ _ _)
   | (with_reducible exact ih2 _ _ _ _ _ _ _ _ _ _ _ _)
   | (with_reducible exact polygon_Check.mono _ _)
   | (with_reducible exact polygon_sides.mono _ _)
   | (with_reducible exact LeO.refl _)
   | (with_reducible exact LeO.none _)
   | (with_reducible refine LeO.ite ?_ ?_)
   | (with_reducible refine LeO.bind ?_ (fun _ => ?_))
   | exact ih0 _ _ _ _
   | exact ih1 _ _ _ _ _ _
   | exact ih2 _ _ _ _ _ _ _ _ _ _ _ _
   | exact polygon_Check.mono _ _
   | exact polygon_sides.mono _ _
   | exact LeO.none _
   | refine LeO.ite ?_ ?_
   | refine LeO.bind ?_ (fun _ => ?_)
  ·intro y0 y1 y2 y3 y4 y5 y6 y7 y8 y9 y10 y11
   unfold polygon_Where.j2
   repeat' first
   | (with_reducible exact ih0 _ _ _ _)
   | (with_reducible exact ih1 _ _ _ _ _ _)
   | (with_reducible exact ih2 _ _ _ _ _ _ _ _ _ _ _ _)
   | (with_reducible exact polygon_Check.mono _ _)
   | (with_reducible exact polygon_sides.mono _ _)
   | (with_reducible exact LeO.refl _)
   | (with_reducible exact LeO.none _)
   | (with_reducible refine LeO.ite ?_ ?_)
   | (with_reducible refine LeO.bind ?_ (fun _ => ?_))
   | exact ih0 _ _ _ _
   | exact ih1 _ _ _ _ _ _
   | exact ih2 _ _ _ _ _ _ _ _ _ _ _ _
   | exact polygon_Check.mono _ _
   | exact polygon_sides.mono _ _
   | exact LeO.none _
   | refine LeO.ite ?_ ?_
   | refine LeO.bind ?_ (fun _ => ?_)
theorem polygon_Where.mono : ∀ a0 a1 a2 k, LeO (polygon_Where.f k a0 a1 a2) (polygon_Where.f (k + 1) a0 a1 a2) := by
 intro a0 a1 a2 k
 obtain ⟨ih0, ih1, ih2⟩ := polygon_Where.mono_l k
 unfold polygon_Where.f
 repeat' first
   | (with_reducible exact ih0 _ _ _ _)
   | (with_reducible exact ih1 _ _ _ _ _ _)
   | (with_reducible exact ih2 _ _ _ _ _ _ _ _ _ _ _ _)
   | (with_reducible exact polygon_Check.mono _ _)
   | (with_reducible exact polygon_sides.mono _ _)
   | (with_reducible exact LeO.refl _)
   | (with_reducible exact LeO.none _)
   | (with_reducible refine LeO.ite ?_ ?_)
   | (with_reducible refine LeO.bind ?_ (fun _ => ?_))
   | exact ih0 _ _ _ _
   | exact ih1 _ _ _ _ _ _
   | exact ih2 _ _ _ _ _ _ _ _ _ _ _ _
   | exact polygon_Check.mono _ _
   | exact polygon_sides.mono _ _
   | exact LeO.none _
   | refine LeO.ite ?_ ?_
   | refine LeO.bind ?_ (fun _ => ?_)
set_option maxHeartbeats 8000000 in
set_option maxRecDepth 100000 in
theorem polygon_Where.calls (k : Nat) (A0 : Option Addr) (c0 : Nat) (l0 : List (S30)) (a1_0 : Int) (a1_1 : Int) (r1 : Int) (r2 : Int) (w : World) (hr0 : Kd.C k30 w A0 l0.length l0) (hc0 : l0.length ≤ c0) (h : polygon_Where.f k l0 a1_0 a1_1 = some (r1, r2)) :
  Calls Try.prog 17 #[.slice A0 l0.length c0, .agg #[.int .i64 a1_0, .int .i64 a1_1]] w fun e w' => e = .returned (.tuple #[.int .i64 r1, .int .i64 r2]) ∧ Below w.heap.size w w' := by
 have hu30 := Try.underlying30
 have hu57 := Try.underlying57
 have HR0 := Aside0.mk hr0
 have HC0 := Aside0.mk hc0
 clear hr0 hc0
 have HB := Aside0.mk (Below.refl w.heap.size w)
 have H : ((polygon_Check.f k l0).bind fun t206 => (if t206 = 0 then ((polygon_inside.f a1_0).bind fun t207 => (if t207 = true then ((polygon_inside.f a1_1).bind fun t208 => (polygon_Where.j0 k l0 (!t208) a1_0 a1_1)) else (polygon_Where.j0 k l0 true a1_0 a1_1))) else (some (0, t206)))) = some (r1, r2) := h
 clear h
 replace H := Option.bind_eq_some_iff.mp H
 obtain ⟨t206, A30, H⟩ := H
 replace H : (if t206 = 0 then ((polygon_inside.f a1_0).bind fun t207 => (if t207 = true then ((polygon_inside.f a1_1).bind fun t208 => (polygon_Where.j0 k l0 (!t208) a1_0 a1_1)) else (polygon_Where.j0 k l0 true a1_0 a1_1))) else (some (0, t206))) = some (r1, r2) := H
 have A3 := Aside0.mk A30
 clear A30
 by_cases c4 : t206 = 0
 ·rw [if_pos c4] at H
  have c4b0 : (t206 == 0) = true := beq_iff_eq.mpr c4
  have c4b1 : (t206 != 0) = false := bne_eq_false_iff_eq.mpr c4
  clear c4
  have HC5 := Aside0.mk H
  clear H
  go_enter Try.func17, Try.ntmps17
  go_upto_region 4 with (first | ((with_reducible refine gate_dst (N := 3) rfl ?_); refine box_event ?hg (N := 3) ?hd (cs := #[.int .i64 a1_0, .int .i64 a1_1]) (t := 30) ?hr ?_; (case hd => rfl); (case hg => rfl); (case hr => first | (go_simp; done) | (go_simp; rfl)); intro gb205 hg w6 hbox hb; have n0_ := Aside0.mk (below_step (by repeat (first | (with_reducible first | exact HB.out | apply below_alloc | apply pw_below_drewN | apply below_drew1) | exact HB.out)) hb); have n1_ := Aside0.mk (hbox); have n2_ := Aside0.mk ((by rw [hg]; exact (below_size (by repeat (first | (with_reducible first | exact HB.out | apply below_alloc | apply pw_below_drewN | apply below_drew1) | exact HB.out))) : w.heap.size ≤ gb205)); have n3_ := Aside0.mk ((by rw [hg]; exact (below_size (by repeat (first | (with_reducible first | exact HB.out | apply below_alloc | apply pw_below_drewN | apply below_drew1) | exact HB.out))) : w.heap.size ≤ gb205)); clear HB; have HB := n0_; have BK205 := n1_; have GW205 := n2_; have GE205 := n3_; clear n0_ n1_ n2_ n3_; clear hb hbox hg) | ((with_reducible refine gate_callee (f := 20) rfl ?_); refine goesL_ (some 12) rfl rfl Try.func20 (by kernel_rfl) rfl #[.slice A0 l0.length c0] rfl (by (try simp only [List.map_toArray, List.map_cons, List.map_nil]); first | done | rfl | (simp only [List.length_drop, List.length_take]; rfl)) ?_; (with_reducible refine (polygon_Check.calls k _ _ l0 t206 _ ?side1 ?side2 A3.out).mono ?_); (case side1 => repeat (first | exact (Kd.C_below HR0.out HB.out) | (with_reducible refine Kd.C_alloc ?_ _) | (with_reducible refine Kd.C_drewN ?_ _) | (with_reducible refine Kd.C_drew ?_))); (case side2 => exact HC0.out); rintro e w7 ⟨rfl, hb⟩; refine ⟨_, rfl, ?_⟩; have n0_ := Aside0.mk (blk_below (g := gb205) (o := .cells #[.int .i64 a1_0, .int .i64 a1_1] 30 (0, 0)) (by (with_reducible repeat (first | refine blk_drewN ?_ _ | refine blk_drew ?_ | refine blk_alloc ?_ _)); exact BK205.out) hb); have n1_ := Aside0.mk (below_step (by repeat (first | (with_reducible first | exact HB.out | apply below_alloc | apply pw_below_drewN | apply below_drew1 | refine below_set ?_ GE205.out) | exact HB.out)) hb); clear BK205; clear HB; have BK205 := n0_; have HB := n1_; clear n0_ n1_; (try clear hb); (try clear hb2); (try clear hk); (try clear hi)))
  (try simp only [Act.put, List.setIfInBounds_toArray, List.set_cons_zero, List.set_cons_succ])
  go_cut [25] (fun v25 wc => ∃ (kq : Nat) (x25_4 : Bool), v25 = .bool x25_4 ∧ Aside0 (polygon_Where.j0 kq l0 x25_4 a1_0 a1_1 = some (r1, r2)) ∧ Aside0 (kq ≤ k) ∧ Aside0 (wc.heap[gb205]? = some (.cells #[.int .i64 a1_0, .int .i64 a1_1] 30 (0, 0))) ∧ Aside0 (Below w.heap.size w wc))
  case first =>
   have H := HC5.out
   clear HC5
   replace H := Option.bind_eq_some_iff.mp H
   obtain ⟨t207, A80, H⟩ := H
   replace H : (if t207 = true then ((polygon_inside.f a1_1).bind fun t208 => (polygon_Where.j0 k l0 (!t208) a1_0 a1_1)) else (polygon_Where.j0 k l0 true a1_0 a1_1)) = some (r1, r2) := H
   have A8 := Aside0.mk A80
   clear A80
   by_cases c9 : t207 = true
   ·subst c9
    have H1 : ((polygon_inside.f a1_1).bind fun t208 => (polygon_Where.j0 k l0 (!t208) a1_0 a1_1)) = some (r1, r2) := by rw [if_pos rfl] at H; exact H
    clear H
    have H := H1
    clear H1
    replace H := Option.bind_eq_some_iff.mp H
    obtain ⟨t208, A100, H⟩ := H
    replace H : (polygon_Where.j0 k l0 (!t208) a1_0 a1_1) = some (r1, r2) := H
    have A10 := Aside0.mk A100
    clear A100
    have H' := Aside0.mk H
    clear H
    have hcz11_0 : w7.cell? ⟨gb205, 0, none⟩ = some (.int .i64 a1_0) := (blk_cell BK205.out 0).trans rfl
    have hcz11_1 : w7.cell? ⟨gb205, 1, none⟩ = some (.int .i64 a1_1) := (blk_cell BK205.out 1).trans rfl
    have hfz11_0 := blk_frozen BK205.out 0
    have hfz11_1 := blk_frozen BK205.out 1
    go_wp2_with (first | ((with_reducible refine gate_callee (f := 41) rfl ?_); refine goesL_ (some 18) rfl rfl Try.func41 (by kernel_rfl) rfl #[.int .i64 a1_0] rfl (by (try simp only [List.map_toArray, List.map_cons, List.map_nil]); first | done | rfl | (simp only [List.length_drop, List.length_take]; rfl)) ?_; (with_reducible refine (polygon_inside.calls a1_0 true _ A8.out).mono ?_); rintro e w' ⟨rfl, ⟨nd, rfl⟩⟩; refine ⟨_, rfl, ?_⟩) | (go_at_call 41; (with_reducible refine (polygon_inside.calls a1_1 t208 _ A10.out).mono ?_); rintro e w' ⟨rfl, ⟨nd, rfl⟩⟩))
    go_meet
    case rel => exact ⟨_, (!t208), (by first | rfl | (simp; done) | (simp [*]; done)), H', ⟨by first | omega | exact Nat.le_refl _⟩, ⟨by (with_reducible repeat (first | refine blk_drewN ?_ _ | refine blk_drew ?_ | refine blk_alloc ?_ _)); exact BK205.out⟩, ⟨by repeat (first | (with_reducible first | exact HB.out | apply below_alloc | apply pw_below_drewN | apply below_drew1 | refine below_set ?_ GE205.out) | exact HB.out)⟩⟩
   ·replace c9 := Bool.eq_false_iff.mpr c9
    subst c9
    have H1 : (polygon_Where.j0 k l0 true a1_0 a1_1) = some (r1, r2) := by rw [if_neg (show ¬ (false = true) by decide)] at H; exact H
    clear H
    have H := H1
    clear H1
    have H' := Aside0.mk H
    clear H
    have hcz12_0 : w7.cell? ⟨gb205, 0, none⟩ = some (.int .i64 a1_0) := (blk_cell BK205.out 0).trans rfl
    have hcz12_1 : w7.cell? ⟨gb205, 1, none⟩ = some (.int .i64 a1_1) := (blk_cell BK205.out 1).trans rfl
    have hfz12_0 := blk_frozen BK205.out 0
    have hfz12_1 := blk_frozen BK205.out 1
    go_wp2_with (first | ((with_reducible refine gate_callee (f := 41) rfl ?_); refine goesL_ (some 18) rfl rfl Try.func41 (by kernel_rfl) rfl #[.int .i64 a1_0] rfl (by (try simp only [List.map_toArray, List.map_cons, List.map_nil]); first | done | rfl | (simp only [List.length_drop, List.length_take]; rfl)) ?_; (with_reducible refine (polygon_inside.calls a1_0 false _ A8.out).mono ?_); rintro e w' ⟨rfl, ⟨nd, rfl⟩⟩; refine ⟨_, rfl, ?_⟩))
    go_meet
    case rel => exact ⟨_, (true), (by first | rfl | (simp; done) | (simp [*]; done)), H', ⟨by first | omega | exact Nat.le_refl _⟩, ⟨by (with_reducible repeat (first | refine blk_drewN ?_ _ | refine blk_drew ?_ | refine blk_alloc ?_ _)); exact BK205.out⟩, ⟨by repeat (first | (with_reducible first | exact HB.out | apply below_alloc | apply pw_below_drewN | apply below_drew1 | refine below_set ?_ GE205.out) | exact HB.out)⟩⟩
  case rest =>
   clear HC5
   try clear c1
   try clear c2
   try clear p2
   try clear c4
   try clear c4b0
   try clear c4b1
   try clear c9
   try clear hcz11_0
   try clear hcz11_1
   try clear hcz12_0
   try clear hcz12_1
   try clear hfz11_0
   try clear hfz11_1
   try clear hfz12_0
   try clear hfz12_1
   obtain ⟨kq, x25_4, rfl, HA, HJ4, BK205, HB⟩ := hcut
   cases kq with
   | zero => exact absurd HA.out (by simp [polygon_Where.j0])
   | succ kj4 =>
    have H := HA.out
    clear HA
    simp only [polygon_Where.j0] at H
    by_cases c13 : x25_4 = true
    ·subst c13
     have H1 : (some ((-1), 0)) = some (r1, r2) := by rw [if_pos rfl] at H; exact H
     clear H
     have H := H1
     clear H1
     simp only [Option.some.injEq, Prod.mk.injEq] at H
     obtain ⟨rfl, rfl⟩ := H
     go_wp2
     go_ret2
     exact ⟨by first | rfl | (simp [errW_none, errW_some] <;> rfl) | (simp [*, errW_none, errW_some] <;> rfl), by repeat (first | (with_reducible first | exact HB.out | apply below_alloc | apply pw_below_drewN | apply below_drew1 | refine below_set ?_ GE205.out) | exact HB.out)⟩
    ·replace c13 := Bool.eq_false_iff.mpr c13
     subst c13
     have H1 : ((polygon_sides.f kj4 l0).bind fun t209 => (polygon_Where.l0 kj4 0 t209 (t209.length : Int) 0 a1_0 a1_1)) = some (r1, r2) := by rw [if_neg (show ¬ (false = true) by decide)] at H; exact H
     clear H
     have H := H1
     clear H1
     replace H := Option.bind_eq_some_iff.mp H
     obtain ⟨t209, A140, H⟩ := H
     replace H : (polygon_Where.l0 kj4 0 t209 (t209.length : Int) 0 a1_0 a1_1) = some (r1, r2) := H
     have A14 := Aside0.mk A140
     clear A140
     have H' := Aside0.mk H
     clear H
     go_wp2_with (first | ((with_reducible refine gate_callee (f := 42) rfl ?_); refine goesL_ (some 27) rfl rfl Try.func42 (by kernel_rfl) rfl #[.slice A0 l0.length c0] rfl (by (try simp only [List.map_toArray, List.map_cons, List.map_nil]); first | done | rfl | (simp only [List.length_drop, List.length_take]; rfl)) ?_; (with_reducible refine (polygon_sides.calls kj4 _ _ l0 t209 _ ?side1 ?side2 A14.out).mono ?_); (case side1 => repeat (first | exact (Kd.C_below HR0.out HB.out) | (with_reducible refine Kd.C_alloc ?_ _) | (with_reducible refine Kd.C_drewN ?_ _) | (with_reducible refine Kd.C_drew ?_))); (case side2 => exact HC0.out); rintro e w15 ⟨v210, rfl, ho0, hb⟩; refine ⟨_, rfl, ?_⟩; have n0_ := Aside0.mk (Kd.R_lower ho0 (below_size (by repeat (first | (with_reducible first | exact HB.out | apply below_alloc | apply pw_below_drewN | apply below_drew1 | refine below_set ?_ GE205.out) | exact HB.out)))); have n1_ := Aside0.mk (blk_below (g := gb205) (o := .cells #[.int .i64 a1_0, .int .i64 a1_1] 30 (0, 0)) (by (with_reducible repeat (first | refine blk_drewN ?_ _ | refine blk_drew ?_ | refine blk_alloc ?_ _)); exact BK205.out) hb); have n2_ := Aside0.mk (below_step (by repeat (first | (with_reducible first | exact HB.out | apply below_alloc | apply pw_below_drewN | apply below_drew1 | refine below_set ?_ GE205.out) | exact HB.out)) hb); clear BK205; clear HB; have HO211 := n0_; have BK205 := n1_; have HB := n2_; clear n0_ n1_ n2_; (try clear hb); (try clear hb2); (try clear hk); (try clear hi); (try clear ho0); obtain ⟨Ao16, co16, eo16⟩ := Kd.R_slice HO211.out; subst eo16))
     go_loopg [7, 29] kj4 (fun kq v7 v29 w' => ∃ (x7_2 : Int) (x29_2 : Int), v7 = .int .i64 x7_2 ∧ v29 = .int .i64 x29_2 ∧ Aside0 (polygon_Where.l0 kq x7_2 t209 (t209.length : Int) x29_2 a1_0 a1_1 = some (r1, r2)) ∧ Aside0 (kq ≤ kj4) ∧ Aside0 (Kd.R k57 57 w' w.heap.size (fun _ => True) (.slice Ao16 t209.length co16) t209) ∧ Aside0 (w'.heap[gb205]? = some (.cells #[.int .i64 a1_0, .int .i64 a1_1] 30 (0, 0))) ∧ Aside0 (Below w.heap.size w w'))
     case atStart => exact ⟨(0), (0), (by first | rfl | (simp; done) | (simp [*]; done)), (by first | rfl | (simp; done) | (simp [*]; done)), H', ⟨Nat.le_refl _⟩, ⟨by (with_reducible repeat (first | apply Kd.R_alloc | apply Kd.R_drewN | apply Kd.R_drew)); exact HO211.out⟩, ⟨by (with_reducible repeat (first | refine blk_drewN ?_ _ | refine blk_drew ?_ | refine blk_alloc ?_ _)); exact BK205.out⟩, ⟨by repeat (first | (with_reducible first | exact HB.out | apply below_alloc | apply pw_below_drewN | apply below_drew1 | refine below_set ?_ GE205.out) | exact HB.out)⟩⟩
     case round =>
      clear H'
      try clear c1
      try clear c2
      try clear p2
      try clear c4
      try clear c4b0
      try clear c4b1
      try clear c9
      try clear c13
      try clear hcz11_0
      try clear hcz11_1
      try clear hcz12_0
      try clear hcz12_1
      try clear hfz11_0
      try clear hfz11_1
      try clear hfz12_0
      try clear hfz12_1
      try clear p2
      obtain ⟨x7_2, x29_2, rfl, rfl, HA, HK2, HO_27, BK205, HB⟩ := hrel
      cases gk with
      | zero => exact absurd HA.out (by simp [polygon_Where.l0])
      | succ k2 =>
       have H := HA.out
       clear HA
       simp only [polygon_Where.l0] at H
       by_cases c17 : x29_2 < (t209.length : Int)
       ·rw [if_pos c17] at H
        have c17b0 : decide (x29_2 < (t209.length : Int)) = true := decide_eq_true c17
        clear c17
        by_cases c18 : 0 ≤ x29_2
        ·rw [if_pos c18] at H
         have c18b0 : decide (0 ≤ x29_2) = true := decide_eq_true c18
         clear c18
         by_cases c19 : x29_2 < (t209.length : Int)
         ·rw [if_pos c19] at H
          have c19b0 : decide (x29_2 < (t209.length : Int)) = true := decide_eq_true c19
          clear c19
          replace H := Option.bind_eq_some_iff.mp H
          obtain ⟨t214, A200, H⟩ := H
          replace H : (if t214 = true then (some (0, 0)) else ((polygon_turn.f ((rd_T57 t209 x29_2).f0.f0) ((rd_T57 t209 x29_2).f0.f1) ((rd_T57 t209 x29_2).f1.f0) ((rd_T57 t209 x29_2).f1.f1) a1_0 a1_1).bind fun t215 => (if ((rd_T57 t209 x29_2).f0.f1) ≤ a1_1 then (if ((rd_T57 t209 x29_2).f1.f1) > a1_1 then (polygon_Where.j2 k2 x7_2 t215 t209 (t209.length : Int) x29_2 (decide (t215 > 0)) a1_0 a1_1 ((rd_T57 t209 x29_2).f0.f0) ((rd_T57 t209 x29_2).f0.f1) ((rd_T57 t209 x29_2).f1.f0) ((rd_T57 t209 x29_2).f1.f1)) else (polygon_Where.j2 k2 x7_2 t215 t209 (t209.length : Int) x29_2 false a1_0 a1_1 ((rd_T57 t209 x29_2).f0.f0) ((rd_T57 t209 x29_2).f0.f1) ((rd_T57 t209 x29_2).f1.f0) ((rd_T57 t209 x29_2).f1.f1))) else (polygon_Where.j2 k2 x7_2 t215 t209 (t209.length : Int) x29_2 false a1_0 a1_1 ((rd_T57 t209 x29_2).f0.f0) ((rd_T57 t209 x29_2).f0.f1) ((rd_T57 t209 x29_2).f1.f0) ((rd_T57 t209 x29_2).f1.f1))))) = some (r1, r2) := H
          have A20 := Aside0.mk A200
          clear A200
          by_cases c21 : t214 = true
          ·subst c21
           have H1 : (some (0, 0)) = some (r1, r2) := by rw [if_pos rfl] at H; exact H
           clear H
           have H := H1
           clear H1
           simp only [Option.some.injEq, Prod.mk.injEq] at H
           obtain ⟨rfl, rfl⟩ := H
           have p212 : 0 ≤ (x29_2 : Int) := of_decide_eq_true (by first | (with_reducible assumption) | assumption)
           have q212 : x29_2 < (t209.length : Int) := of_decide_eq_true (by first | (with_reducible assumption) | assumption)
           obtain ⟨ad212, e212, hx212_0, hx212_1, hx212_2, hx212_3⟩ := at_T57 (Kd.R_reads' HO_27.out).2.2 x29_2 p212 q212
           cases e212
           replace p212 := eq_true p212
           replace q212 := eq_true q212
           go_wp2_with (first | ((with_reducible refine gate_dst (N := 9) rfl ?_); refine box_event ?hg (N := 9) ?hd (cs := #[.int .i64 0, .int .i64 0, .int .i64 0, .int .i64 0]) (t := 57) ?hr ?_; (case hd => rfl); (case hg => rfl); (case hr => first | (go_simp; done) | (go_simp; rfl)); intro gb213 hg w22 hbox hb; have n0_ := Aside0.mk (Kd.R_below (Kd.R_elderB (by (with_reducible repeat (first | apply Kd.R_alloc | apply Kd.R_drewN | apply Kd.R_drew)); exact HO_27.out) gb213 (Nat.le_of_eq hg.symm)) hb); have n1_ := Aside0.mk (blk_below (g := gb205) (o := .cells #[.int .i64 a1_0, .int .i64 a1_1] 30 (0, 0)) (by (with_reducible repeat (first | refine blk_drewN ?_ _ | refine blk_drew ?_ | refine blk_alloc ?_ _)); exact BK205.out) hb); have n2_ := Aside0.mk (below_step (by repeat (first | (with_reducible first | exact HB.out | apply below_alloc | apply pw_below_drewN | apply below_drew1 | refine below_set ?_ GE205.out) | exact HB.out)) hb); have n3_ := Aside0.mk (hbox); have n4_ := Aside0.mk ((by rw [hg]; exact (below_size (by repeat (first | (with_reducible first | exact HB.out | apply below_alloc | apply pw_below_drewN | apply below_drew1 | refine below_set ?_ GE205.out) | exact HB.out))) : w.heap.size ≤ gb213)); have n5_ := Aside0.mk ((by rw [hg]; exact (below_size (by repeat (first | (with_reducible first | exact HB.out | apply below_alloc | apply pw_below_drewN | apply below_drew1 | refine below_set ?_ GE205.out) | exact HB.out))) : w.heap.size ≤ gb213)); have n6_ := Aside0.mk ((by rw [hg]; exact Nat.ne_of_lt (blk_lt (g := gb205) (o := .cells #[.int .i64 a1_0, .int .i64 a1_1] 30 (0, 0)) (by (with_reducible repeat (first | refine blk_drewN ?_ _ | refine blk_drew ?_ | refine blk_alloc ?_ _)); exact BK205.out)) : gb205 ≠ gb213)); have n7_ := Aside0.mk ((by rw [hg]; exact Nat.ne_of_gt (blk_lt (g := gb205) (o := .cells #[.int .i64 a1_0, .int .i64 a1_1] 30 (0, 0)) (by (with_reducible repeat (first | refine blk_drewN ?_ _ | refine blk_drew ?_ | refine blk_alloc ?_ _)); exact BK205.out)) : gb213 ≠ gb205)); clear HO_27; clear BK205; clear HB; have HO_27 := n0_; have BK205 := n1_; have HB := n2_; have BK213 := n3_; have GW213 := n4_; have GE213 := n5_; have NB205_213 := n6_; have NB213_205 := n7_; clear n0_ n1_ n2_ n3_ n4_ n5_ n6_ n7_; clear hb hbox hg; have hnb23 := NB213_205.out; have hnc23 := NB205_213.out; have hcz24_0 : w22.cell? ⟨gb213, 0, none⟩ = some (.int .i64 0) := (blk_cell BK213.out 0).trans rfl; have hcz24_1 : w22.cell? ⟨gb213, 1, none⟩ = some (.int .i64 0) := (blk_cell BK213.out 1).trans rfl; have hcz24_2 : w22.cell? ⟨gb213, 2, none⟩ = some (.int .i64 0) := (blk_cell BK213.out 2).trans rfl; have hcz24_3 : w22.cell? ⟨gb213, 3, none⟩ = some (.int .i64 0) := (blk_cell BK213.out 3).trans rfl; have hfz24_0 := blk_frozen BK213.out 0; have hfz24_1 := blk_frozen BK213.out 1; have hfz24_2 := blk_frozen BK213.out 2; have hfz24_3 := blk_frozen BK213.out 3; have hcz25_0 : w22.cell? ⟨gb205, 0, none⟩ = some (.int .i64 a1_0) := (blk_cell BK205.out 0).trans rfl; have hcz25_1 : w22.cell? ⟨gb205, 1, none⟩ = some (.int .i64 a1_1) := (blk_cell BK205.out 1).trans rfl; have hfz25_0 := blk_frozen BK205.out 0; have hfz25_1 := blk_frozen BK205.out 1) | ((with_reducible refine gate_callee (f := 43) rfl ?_); refine goesL_ (some 35) rfl rfl Try.func43 (by kernel_rfl) rfl #[.agg #[.int .i64 ((rd_T57 t209 x29_2).f0.f0), .int .i64 ((rd_T57 t209 x29_2).f0.f1), .int .i64 ((rd_T57 t209 x29_2).f1.f0), .int .i64 ((rd_T57 t209 x29_2).f1.f1)], .agg #[.int .i64 a1_0, .int .i64 a1_1]] rfl (by (try simp only [List.map_toArray, List.map_cons, List.map_nil]); first | done | rfl | (simp only [List.length_drop, List.length_take]; rfl)) ?_; (with_reducible refine (polygon_side_holds.calls ((rd_T57 t209 x29_2).f0.f0) ((rd_T57 t209 x29_2).f0.f1) ((rd_T57 t209 x29_2).f1.f0) ((rd_T57 t209 x29_2).f1.f1) a1_0 a1_1 true _ A20.out).mono ?_); rintro e w26 ⟨rfl, hb⟩; refine ⟨_, rfl, ?_⟩; have n0_ := Aside0.mk (Kd.R_below (by (with_reducible repeat (first | apply Kd.R_alloc | apply Kd.R_drewN | apply Kd.R_drew)); exact (Kd.R_mono (Kd.R_far (p := ⟨gb213, 3, none⟩) (Kd.R_far (p := ⟨gb213, 2, none⟩) (Kd.R_far (p := ⟨gb213, 1, none⟩) (Kd.R_far (p := ⟨gb213, 0, none⟩) (Kd.R_mono HO_27.out (fun k_ hk => (⟨hk, hk.2⟩ : _ ∧ k_ ≠ gb213))) (fun _ hk => hk.2) (.int .i64 ((rd_T57 t209 x29_2).f0.f0))) (fun _ hk => hk.2) (.int .i64 ((rd_T57 t209 x29_2).f0.f1))) (fun _ hk => hk.2) (.int .i64 ((rd_T57 t209 x29_2).f1.f0))) (fun _ hk => hk.2) (.int .i64 ((rd_T57 t209 x29_2).f1.f1))) (fun _ h_ => h_.1))) hb); have n1_ := Aside0.mk (blk_below (g := gb205) (o := .cells #[.int .i64 a1_0, .int .i64 a1_1] 30 (0, 0)) (by (with_reducible repeat (first | refine blk_drewN ?_ _ | refine blk_drew ?_ | refine blk_alloc ?_ _)); refine blk_far ?_ NB205_213.out _; (with_reducible repeat (first | refine blk_drewN ?_ _ | refine blk_drew ?_ | refine blk_alloc ?_ _)); refine blk_far ?_ NB205_213.out _; (with_reducible repeat (first | refine blk_drewN ?_ _ | refine blk_drew ?_ | refine blk_alloc ?_ _)); refine blk_far ?_ NB205_213.out _; (with_reducible repeat (first | refine blk_drewN ?_ _ | refine blk_drew ?_ | refine blk_alloc ?_ _)); refine blk_far ?_ NB205_213.out _; (with_reducible repeat (first | refine blk_drewN ?_ _ | refine blk_drew ?_ | refine blk_alloc ?_ _)); exact BK205.out) hb); have n2_ := Aside0.mk (blk_below (g := gb213) (o := .cells #[.int .i64 ((rd_T57 t209 x29_2).f0.f0), .int .i64 ((rd_T57 t209 x29_2).f0.f1), .int .i64 ((rd_T57 t209 x29_2).f1.f0), .int .i64 ((rd_T57 t209 x29_2).f1.f1)] 57 (0, 0)) (by (with_reducible repeat (first | refine blk_drewN ?_ _ | refine blk_drew ?_ | refine blk_alloc ?_ _)); refine blk_put (cs := #[.int .i64 ((rd_T57 t209 x29_2).f0.f0), .int .i64 ((rd_T57 t209 x29_2).f0.f1), .int .i64 ((rd_T57 t209 x29_2).f1.f0), .int .i64 0]) ?_ 3 _ rfl; (with_reducible repeat (first | refine blk_drewN ?_ _ | refine blk_drew ?_ | refine blk_alloc ?_ _)); refine blk_put (cs := #[.int .i64 ((rd_T57 t209 x29_2).f0.f0), .int .i64 ((rd_T57 t209 x29_2).f0.f1), .int .i64 0, .int .i64 0]) ?_ 2 _ rfl; (with_reducible repeat (first | refine blk_drewN ?_ _ | refine blk_drew ?_ | refine blk_alloc ?_ _)); refine blk_put (cs := #[.int .i64 ((rd_T57 t209 x29_2).f0.f0), .int .i64 0, .int .i64 0, .int .i64 0]) ?_ 1 _ rfl; (with_reducible repeat (first | refine blk_drewN ?_ _ | refine blk_drew ?_ | refine blk_alloc ?_ _)); refine blk_put (cs := #[.int .i64 0, .int .i64 0, .int .i64 0, .int .i64 0]) ?_ 0 _ rfl; (with_reducible repeat (first | refine blk_drewN ?_ _ | refine blk_drew ?_ | refine blk_alloc ?_ _)); exact BK213.out) hb); have n3_ := Aside0.mk (below_step (by repeat (first | (with_reducible first | exact HB.out | apply below_alloc | apply pw_below_drewN | apply below_drew1 | refine below_set ?_ GE205.out | refine below_set ?_ GE213.out) | exact HB.out)) hb); clear HO_27; clear BK205; clear BK213; clear HB; have HO_27 := n0_; have BK205 := n1_; have BK213 := n2_; have HB := n3_; clear n0_ n1_ n2_ n3_; (try clear hb); (try clear hb2); (try clear hk); (try clear hi)))
           go_ret2
           exact ⟨by first | rfl | (simp [errW_none, errW_some] <;> rfl) | (simp [*, errW_none, errW_some] <;> rfl), by repeat (first | (with_reducible first | exact HB.out | apply below_alloc | apply pw_below_drewN | apply below_drew1 | refine below_set ?_ GE205.out | refine below_set ?_ GE213.out) | exact HB.out)⟩
          ·replace c21 := Bool.eq_false_iff.mpr c21
           subst c21
           have H1 : ((polygon_turn.f ((rd_T57 t209 x29_2).f0.f0) ((rd_T57 t209 x29_2).f0.f1) ((rd_T57 t209 x29_2).f1.f0) ((rd_T57 t209 x29_2).f1.f1) a1_0 a1_1).bind fun t215 => (if ((rd_T57 t209 x29_2).f0.f1) ≤ a1_1 then (if ((rd_T57 t209 x29_2).f1.f1) > a1_1 then (polygon_Where.j2 k2 x7_2 t215 t209 (t209.length : Int) x29_2 (decide (t215 > 0)) a1_0 a1_1 ((rd_T57 t209 x29_2).f0.f0) ((rd_T57 t209 x29_2).f0.f1) ((rd_T57 t209 x29_2).f1.f0) ((rd_T57 t209 x29_2).f1.f1)) else (polygon_Where.j2 k2 x7_2 t215 t209 (t209.length : Int) x29_2 false a1_0 a1_1 ((rd_T57 t209 x29_2).f0.f0) ((rd_T57 t209 x29_2).f0.f1) ((rd_T57 t209 x29_2).f1.f0) ((rd_T57 t209 x29_2).f1.f1))) else (polygon_Where.j2 k2 x7_2 t215 t209 (t209.length : Int) x29_2 false a1_0 a1_1 ((rd_T57 t209 x29_2).f0.f0) ((rd_T57 t209 x29_2).f0.f1) ((rd_T57 t209 x29_2).f1.f0) ((rd_T57 t209 x29_2).f1.f1)))) = some (r1, r2) := by rw [if_neg (show ¬ (false = true) by decide)] at H; exact H
           clear H
           have H := H1
           clear H1
           replace H := Option.bind_eq_some_iff.mp H
           obtain ⟨t215, A270, H⟩ := H
           replace H : (if ((rd_T57 t209 x29_2).f0.f1) ≤ a1_1 then (if ((rd_T57 t209 x29_2).f1.f1) > a1_1 then (polygon_Where.j2 k2 x7_2 t215 t209 (t209.length : Int) x29_2 (decide (t215 > 0)) a1_0 a1_1 ((rd_T57 t209 x29_2).f0.f0) ((rd_T57 t209 x29_2).f0.f1) ((rd_T57 t209 x29_2).f1.f0) ((rd_T57 t209 x29_2).f1.f1)) else (polygon_Where.j2 k2 x7_2 t215 t209 (t209.length : Int) x29_2 false a1_0 a1_1 ((rd_T57 t209 x29_2).f0.f0) ((rd_T57 t209 x29_2).f0.f1) ((rd_T57 t209 x29_2).f1.f0) ((rd_T57 t209 x29_2).f1.f1))) else (polygon_Where.j2 k2 x7_2 t215 t209 (t209.length : Int) x29_2 false a1_0 a1_1 ((rd_T57 t209 x29_2).f0.f0) ((rd_T57 t209 x29_2).f0.f1) ((rd_T57 t209 x29_2).f1.f0) ((rd_T57 t209 x29_2).f1.f1))) = some (r1, r2) := H
           have A27 := Aside0.mk A270
           clear A270
           have HC28 := Aside0.mk H
           clear H
           have p212 : 0 ≤ (x29_2 : Int) := of_decide_eq_true (by first | (with_reducible assumption) | assumption)
           have q212 : x29_2 < (t209.length : Int) := of_decide_eq_true (by first | (with_reducible assumption) | assumption)
           obtain ⟨ad212, e212, hx212_0, hx212_1, hx212_2, hx212_3⟩ := at_T57 (Kd.R_reads' HO_27.out).2.2 x29_2 p212 q212
           cases e212
           replace p212 := eq_true p212
           replace q212 := eq_true q212
           go_upto_region 13 with (first | ((with_reducible refine gate_dst (N := 9) rfl ?_); refine box_event ?hg (N := 9) ?hd (cs := #[.int .i64 0, .int .i64 0, .int .i64 0, .int .i64 0]) (t := 57) ?hr ?_; (case hd => rfl); (case hg => rfl); (case hr => first | (go_simp; done) | (go_simp; rfl)); intro gb213 hg w29 hbox hb; have n0_ := Aside0.mk (Kd.R_below (Kd.R_elderB (by (with_reducible repeat (first | apply Kd.R_alloc | apply Kd.R_drewN | apply Kd.R_drew)); exact HO_27.out) gb213 (Nat.le_of_eq hg.symm)) hb); have n1_ := Aside0.mk (blk_below (g := gb205) (o := .cells #[.int .i64 a1_0, .int .i64 a1_1] 30 (0, 0)) (by (with_reducible repeat (first | refine blk_drewN ?_ _ | refine blk_drew ?_ | refine blk_alloc ?_ _)); exact BK205.out) hb); have n2_ := Aside0.mk (below_step (by repeat (first | (with_reducible first | exact HB.out | apply below_alloc | apply pw_below_drewN | apply below_drew1 | refine below_set ?_ GE205.out) | exact HB.out)) hb); have n3_ := Aside0.mk (hbox); have n4_ := Aside0.mk ((by rw [hg]; exact (below_size (by repeat (first | (with_reducible first | exact HB.out | apply below_alloc | apply pw_below_drewN | apply below_drew1 | refine below_set ?_ GE205.out) | exact HB.out))) : w.heap.size ≤ gb213)); have n5_ := Aside0.mk ((by rw [hg]; exact (below_size (by repeat (first | (with_reducible first | exact HB.out | apply below_alloc | apply pw_below_drewN | apply below_drew1 | refine below_set ?_ GE205.out) | exact HB.out))) : w.heap.size ≤ gb213)); have n6_ := Aside0.mk ((by rw [hg]; exact Nat.ne_of_lt (blk_lt (g := gb205) (o := .cells #[.int .i64 a1_0, .int .i64 a1_1] 30 (0, 0)) (by (with_reducible repeat (first | refine blk_drewN ?_ _ | refine blk_drew ?_ | refine blk_alloc ?_ _)); exact BK205.out)) : gb205 ≠ gb213)); have n7_ := Aside0.mk ((by rw [hg]; exact Nat.ne_of_gt (blk_lt (g := gb205) (o := .cells #[.int .i64 a1_0, .int .i64 a1_1] 30 (0, 0)) (by (with_reducible repeat (first | refine blk_drewN ?_ _ | refine blk_drew ?_ | refine blk_alloc ?_ _)); exact BK205.out)) : gb213 ≠ gb205)); clear HO_27; clear BK205; clear HB; have HO_27 := n0_; have BK205 := n1_; have HB := n2_; have BK213 := n3_; have GW213 := n4_; have GE213 := n5_; have NB205_213 := n6_; have NB213_205 := n7_; clear n0_ n1_ n2_ n3_ n4_ n5_ n6_ n7_; clear hb hbox hg; have hnb30 := NB213_205.out; have hnc30 := NB205_213.out; have hcz31_0 : w29.cell? ⟨gb213, 0, none⟩ = some (.int .i64 0) := (blk_cell BK213.out 0).trans rfl; have hcz31_1 : w29.cell? ⟨gb213, 1, none⟩ = some (.int .i64 0) := (blk_cell BK213.out 1).trans rfl; have hcz31_2 : w29.cell? ⟨gb213, 2, none⟩ = some (.int .i64 0) := (blk_cell BK213.out 2).trans rfl; have hcz31_3 : w29.cell? ⟨gb213, 3, none⟩ = some (.int .i64 0) := (blk_cell BK213.out 3).trans rfl; have hfz31_0 := blk_frozen BK213.out 0; have hfz31_1 := blk_frozen BK213.out 1; have hfz31_2 := blk_frozen BK213.out 2; have hfz31_3 := blk_frozen BK213.out 3; have hcz32_0 : w29.cell? ⟨gb205, 0, none⟩ = some (.int .i64 a1_0) := (blk_cell BK205.out 0).trans rfl; have hcz32_1 : w29.cell? ⟨gb205, 1, none⟩ = some (.int .i64 a1_1) := (blk_cell BK205.out 1).trans rfl; have hfz32_0 := blk_frozen BK205.out 0; have hfz32_1 := blk_frozen BK205.out 1) | ((with_reducible refine gate_callee (f := 43) rfl ?_); refine goesL_ (some 35) rfl rfl Try.func43 (by kernel_rfl) rfl #[.agg #[.int .i64 ((rd_T57 t209 x29_2).f0.f0), .int .i64 ((rd_T57 t209 x29_2).f0.f1), .int .i64 ((rd_T57 t209 x29_2).f1.f0), .int .i64 ((rd_T57 t209 x29_2).f1.f1)], .agg #[.int .i64 a1_0, .int .i64 a1_1]] rfl (by (try simp only [List.map_toArray, List.map_cons, List.map_nil]); first | done | rfl | (simp only [List.length_drop, List.length_take]; rfl)) ?_; (with_reducible refine (polygon_side_holds.calls ((rd_T57 t209 x29_2).f0.f0) ((rd_T57 t209 x29_2).f0.f1) ((rd_T57 t209 x29_2).f1.f0) ((rd_T57 t209 x29_2).f1.f1) a1_0 a1_1 false _ A20.out).mono ?_); rintro e w33 ⟨rfl, hb⟩; refine ⟨_, rfl, ?_⟩; have n0_ := Aside0.mk (Kd.R_below (by (with_reducible repeat (first | apply Kd.R_alloc | apply Kd.R_drewN | apply Kd.R_drew)); exact (Kd.R_mono (Kd.R_far (p := ⟨gb213, 3, none⟩) (Kd.R_far (p := ⟨gb213, 2, none⟩) (Kd.R_far (p := ⟨gb213, 1, none⟩) (Kd.R_far (p := ⟨gb213, 0, none⟩) (Kd.R_mono HO_27.out (fun k_ hk => (⟨hk, hk.2⟩ : _ ∧ k_ ≠ gb213))) (fun _ hk => hk.2) (.int .i64 ((rd_T57 t209 x29_2).f0.f0))) (fun _ hk => hk.2) (.int .i64 ((rd_T57 t209 x29_2).f0.f1))) (fun _ hk => hk.2) (.int .i64 ((rd_T57 t209 x29_2).f1.f0))) (fun _ hk => hk.2) (.int .i64 ((rd_T57 t209 x29_2).f1.f1))) (fun _ h_ => h_.1))) hb); have n1_ := Aside0.mk (blk_below (g := gb205) (o := .cells #[.int .i64 a1_0, .int .i64 a1_1] 30 (0, 0)) (by (with_reducible repeat (first | refine blk_drewN ?_ _ | refine blk_drew ?_ | refine blk_alloc ?_ _)); refine blk_far ?_ NB205_213.out _; (with_reducible repeat (first | refine blk_drewN ?_ _ | refine blk_drew ?_ | refine blk_alloc ?_ _)); refine blk_far ?_ NB205_213.out _; (with_reducible repeat (first | refine blk_drewN ?_ _ | refine blk_drew ?_ | refine blk_alloc ?_ _)); refine blk_far ?_ NB205_213.out _; (with_reducible repeat (first | refine blk_drewN ?_ _ | refine blk_drew ?_ | refine blk_alloc ?_ _)); refine blk_far ?_ NB205_213.out _; (with_reducible repeat (first | refine blk_drewN ?_ _ | refine blk_drew ?_ | refine blk_alloc ?_ _)); exact BK205.out) hb); have n2_ := Aside0.mk (blk_below (g := gb213) (o := .cells #[.int .i64 ((rd_T57 t209 x29_2).f0.f0), .int .i64 ((rd_T57 t209 x29_2).f0.f1), .int .i64 ((rd_T57 t209 x29_2).f1.f0), .int .i64 ((rd_T57 t209 x29_2).f1.f1)] 57 (0, 0)) (by (with_reducible repeat (first | refine blk_drewN ?_ _ | refine blk_drew ?_ | refine blk_alloc ?_ _)); refine blk_put (cs := #[.int .i64 ((rd_T57 t209 x29_2).f0.f0), .int .i64 ((rd_T57 t209 x29_2).f0.f1), .int .i64 ((rd_T57 t209 x29_2).f1.f0), .int .i64 0]) ?_ 3 _ rfl; (with_reducible repeat (first | refine blk_drewN ?_ _ | refine blk_drew ?_ | refine blk_alloc ?_ _)); refine blk_put (cs := #[.int .i64 ((rd_T57 t209 x29_2).f0.f0), .int .i64 ((rd_T57 t209 x29_2).f0.f1), .int .i64 0, .int .i64 0]) ?_ 2 _ rfl; (with_reducible repeat (first | refine blk_drewN ?_ _ | refine blk_drew ?_ | refine blk_alloc ?_ _)); refine blk_put (cs := #[.int .i64 ((rd_T57 t209 x29_2).f0.f0), .int .i64 0, .int .i64 0, .int .i64 0]) ?_ 1 _ rfl; (with_reducible repeat (first | refine blk_drewN ?_ _ | refine blk_drew ?_ | refine blk_alloc ?_ _)); refine blk_put (cs := #[.int .i64 0, .int .i64 0, .int .i64 0, .int .i64 0]) ?_ 0 _ rfl; (with_reducible repeat (first | refine blk_drewN ?_ _ | refine blk_drew ?_ | refine blk_alloc ?_ _)); exact BK213.out) hb); have n3_ := Aside0.mk (below_step (by repeat (first | (with_reducible first | exact HB.out | apply below_alloc | apply pw_below_drewN | apply below_drew1 | refine below_set ?_ GE205.out | refine below_set ?_ GE213.out) | exact HB.out)) hb); clear HO_27; clear BK205; clear BK213; clear HB; have HO_27 := n0_; have BK205 := n1_; have BK213 := n2_; have HB := n3_; clear n0_ n1_ n2_ n3_; (try clear hb); (try clear hb2); (try clear hk); (try clear hi); have hcz34_0 : w33.cell? ⟨gb213, 0, none⟩ = some (.int .i64 ((rd_T57 t209 x29_2).f0.f0)) := (blk_cell BK213.out 0).trans rfl; have hcz34_1 : w33.cell? ⟨gb213, 1, none⟩ = some (.int .i64 ((rd_T57 t209 x29_2).f0.f1)) := (blk_cell BK213.out 1).trans rfl; have hcz34_2 : w33.cell? ⟨gb213, 2, none⟩ = some (.int .i64 ((rd_T57 t209 x29_2).f1.f0)) := (blk_cell BK213.out 2).trans rfl; have hcz34_3 : w33.cell? ⟨gb213, 3, none⟩ = some (.int .i64 ((rd_T57 t209 x29_2).f1.f1)) := (blk_cell BK213.out 3).trans rfl; have hfz34_0 := blk_frozen BK213.out 0; have hfz34_1 := blk_frozen BK213.out 1; have hfz34_2 := blk_frozen BK213.out 2; have hfz34_3 := blk_frozen BK213.out 3; have hcz35_0 : w33.cell? ⟨gb205, 0, none⟩ = some (.int .i64 a1_0) := (blk_cell BK205.out 0).trans rfl; have hcz35_1 : w33.cell? ⟨gb205, 1, none⟩ = some (.int .i64 a1_1) := (blk_cell BK205.out 1).trans rfl; have hfz35_0 := blk_frozen BK205.out 0; have hfz35_1 := blk_frozen BK205.out 1) | ((with_reducible refine gate_callee (f := 33) rfl ?_); refine goesL_ (some 41) rfl rfl Try.func33 (by kernel_rfl) rfl #[.agg #[.int .i64 ((rd_T57 t209 x29_2).f0.f0), .int .i64 ((rd_T57 t209 x29_2).f0.f1)], .agg #[.int .i64 ((rd_T57 t209 x29_2).f1.f0), .int .i64 ((rd_T57 t209 x29_2).f1.f1)], .agg #[.int .i64 a1_0, .int .i64 a1_1]] rfl (by (try simp only [List.map_toArray, List.map_cons, List.map_nil]); first | done | rfl | (simp only [List.length_drop, List.length_take]; rfl)) ?_; (with_reducible refine (polygon_turn.calls ((rd_T57 t209 x29_2).f0.f0) ((rd_T57 t209 x29_2).f0.f1) ((rd_T57 t209 x29_2).f1.f0) ((rd_T57 t209 x29_2).f1.f1) a1_0 a1_1 t215 _ A27.out).mono ?_); rintro e w36 ⟨rfl, hb⟩; refine ⟨_, rfl, ?_⟩; have n0_ := Aside0.mk (Kd.R_below (by (with_reducible repeat (first | apply Kd.R_alloc | apply Kd.R_drewN | apply Kd.R_drew)); exact HO_27.out) hb); have n1_ := Aside0.mk (blk_below (g := gb205) (o := .cells #[.int .i64 a1_0, .int .i64 a1_1] 30 (0, 0)) (by (with_reducible repeat (first | refine blk_drewN ?_ _ | refine blk_drew ?_ | refine blk_alloc ?_ _)); exact BK205.out) hb); have n2_ := Aside0.mk (blk_below (g := gb213) (o := .cells #[.int .i64 ((rd_T57 t209 x29_2).f0.f0), .int .i64 ((rd_T57 t209 x29_2).f0.f1), .int .i64 ((rd_T57 t209 x29_2).f1.f0), .int .i64 ((rd_T57 t209 x29_2).f1.f1)] 57 (0, 0)) (by (with_reducible repeat (first | refine blk_drewN ?_ _ | refine blk_drew ?_ | refine blk_alloc ?_ _)); exact BK213.out) hb); have n3_ := Aside0.mk (below_step (by repeat (first | (with_reducible first | exact HB.out | apply below_alloc | apply pw_below_drewN | apply below_drew1 | refine below_set ?_ GE205.out | refine below_set ?_ GE213.out) | exact HB.out)) hb); clear HO_27; clear BK205; clear BK213; clear HB; have HO_27 := n0_; have BK205 := n1_; have BK213 := n2_; have HB := n3_; clear n0_ n1_ n2_ n3_; (try clear hb); (try clear hb2); (try clear hk); (try clear hi)))
           (try simp only [Act.put, List.setIfInBounds_toArray, List.set_cons_zero, List.set_cons_succ])
           go_cut [42] (fun v42 wc => ∃ (kq : Nat) (x42_27 : Bool), v42 = .bool x42_27 ∧ Aside0 (polygon_Where.j2 kq x7_2 t215 t209 (t209.length : Int) x29_2 x42_27 a1_0 a1_1 ((rd_T57 t209 x29_2).f0.f0) ((rd_T57 t209 x29_2).f0.f1) ((rd_T57 t209 x29_2).f1.f0) ((rd_T57 t209 x29_2).f1.f1) = some (r1, r2)) ∧ Aside0 (kq ≤ k2) ∧ Aside0 (Kd.R k57 57 wc w.heap.size (fun k_ => k_ ≠ gb213) (.slice (some ad212) t209.length co16) t209) ∧ Aside0 (wc.heap[gb205]? = some (.cells #[.int .i64 a1_0, .int .i64 a1_1] 30 (0, 0))) ∧ Aside0 (wc.heap[gb213]? = some (.cells #[.int .i64 ((rd_T57 t209 x29_2).f0.f0), .int .i64 ((rd_T57 t209 x29_2).f0.f1), .int .i64 ((rd_T57 t209 x29_2).f1.f0), .int .i64 ((rd_T57 t209 x29_2).f1.f1)] 57 (0, 0))) ∧ Aside0 (Below w.heap.size w wc))
           case first =>
            have H := HC28.out
            clear HC28
            by_cases c37 : ((rd_T57 t209 x29_2).f0.f1) ≤ a1_1
            ·rw [if_pos c37] at H
             have c37b0 : decide (((rd_T57 t209 x29_2).f0.f1) ≤ a1_1) = true := decide_eq_true c37
             clear c37
             (first | rw [c37b0] | (simp only [i64_w, i32_w]; rw [c37b0]) | skip)
             by_cases c38 : ((rd_T57 t209 x29_2).f1.f1) > a1_1
             ·rw [if_pos c38] at H
              have c38b0 : decide (a1_1 < ((rd_T57 t209 x29_2).f1.f1)) = true := decide_eq_true c38
              clear c38
              have H' := Aside0.mk H
              clear H
              have hnb39 := NB213_205.out
              have hnc39 := NB205_213.out
              have hcz40_0 : w36.cell? ⟨gb213, 0, none⟩ = some (.int .i64 ((rd_T57 t209 x29_2).f0.f0)) := (blk_cell BK213.out 0).trans rfl
              have hcz40_1 : w36.cell? ⟨gb213, 1, none⟩ = some (.int .i64 ((rd_T57 t209 x29_2).f0.f1)) := (blk_cell BK213.out 1).trans rfl
              have hcz40_2 : w36.cell? ⟨gb213, 2, none⟩ = some (.int .i64 ((rd_T57 t209 x29_2).f1.f0)) := (blk_cell BK213.out 2).trans rfl
              have hcz40_3 : w36.cell? ⟨gb213, 3, none⟩ = some (.int .i64 ((rd_T57 t209 x29_2).f1.f1)) := (blk_cell BK213.out 3).trans rfl
              have hfz40_0 := blk_frozen BK213.out 0
              have hfz40_1 := blk_frozen BK213.out 1
              have hfz40_2 := blk_frozen BK213.out 2
              have hfz40_3 := blk_frozen BK213.out 3
              have hcz41_0 : w36.cell? ⟨gb205, 0, none⟩ = some (.int .i64 a1_0) := (blk_cell BK205.out 0).trans rfl
              have hcz41_1 : w36.cell? ⟨gb205, 1, none⟩ = some (.int .i64 a1_1) := (blk_cell BK205.out 1).trans rfl
              have hfz41_0 := blk_frozen BK205.out 0
              have hfz41_1 := blk_frozen BK205.out 1
              go_wp2
              go_meet
              case rel => exact ⟨_, (decide (t215 > 0)), (by first | rfl | (simp; done) | (simp [*]; done)), H', ⟨by have := HJ4.out; have := HK2.out; first | omega | exact Nat.le_refl _⟩, ⟨by (with_reducible repeat (first | apply Kd.R_alloc | apply Kd.R_drewN | apply Kd.R_drew)); exact Kd.R_mono HO_27.out (fun _ hk => hk.2)⟩, ⟨by (with_reducible repeat (first | refine blk_drewN ?_ _ | refine blk_drew ?_ | refine blk_alloc ?_ _)); exact BK205.out⟩, ⟨by (with_reducible repeat (first | refine blk_drewN ?_ _ | refine blk_drew ?_ | refine blk_alloc ?_ _)); exact BK213.out⟩, ⟨by repeat (first | (with_reducible first | exact HB.out | apply below_alloc | apply pw_below_drewN | apply below_drew1 | refine below_set ?_ GE205.out | refine below_set ?_ GE213.out) | exact HB.out)⟩⟩
             ·rw [if_neg c38] at H
              have c38b0 : decide (a1_1 < ((rd_T57 t209 x29_2).f1.f1)) = false := decide_eq_false c38
              clear c38
              have H' := Aside0.mk H
              clear H
              have hnb42 := NB213_205.out
              have hnc42 := NB205_213.out
              have hcz43_0 : w36.cell? ⟨gb213, 0, none⟩ = some (.int .i64 ((rd_T57 t209 x29_2).f0.f0)) := (blk_cell BK213.out 0).trans rfl
              have hcz43_1 : w36.cell? ⟨gb213, 1, none⟩ = some (.int .i64 ((rd_T57 t209 x29_2).f0.f1)) := (blk_cell BK213.out 1).trans rfl
              have hcz43_2 : w36.cell? ⟨gb213, 2, none⟩ = some (.int .i64 ((rd_T57 t209 x29_2).f1.f0)) := (blk_cell BK213.out 2).trans rfl
              have hcz43_3 : w36.cell? ⟨gb213, 3, none⟩ = some (.int .i64 ((rd_T57 t209 x29_2).f1.f1)) := (blk_cell BK213.out 3).trans rfl
              have hfz43_0 := blk_frozen BK213.out 0
              have hfz43_1 := blk_frozen BK213.out 1
              have hfz43_2 := blk_frozen BK213.out 2
              have hfz43_3 := blk_frozen BK213.out 3
              have hcz44_0 : w36.cell? ⟨gb205, 0, none⟩ = some (.int .i64 a1_0) := (blk_cell BK205.out 0).trans rfl
              have hcz44_1 : w36.cell? ⟨gb205, 1, none⟩ = some (.int .i64 a1_1) := (blk_cell BK205.out 1).trans rfl
              have hfz44_0 := blk_frozen BK205.out 0
              have hfz44_1 := blk_frozen BK205.out 1
              go_wp2
              go_meet
              case rel => exact ⟨_, (false), (by first | rfl | (simp; done) | (simp [*]; done)), H', ⟨by have := HJ4.out; have := HK2.out; first | omega | exact Nat.le_refl _⟩, ⟨by (with_reducible repeat (first | apply Kd.R_alloc | apply Kd.R_drewN | apply Kd.R_drew)); exact Kd.R_mono HO_27.out (fun _ hk => hk.2)⟩, ⟨by (with_reducible repeat (first | refine blk_drewN ?_ _ | refine blk_drew ?_ | refine blk_alloc ?_ _)); exact BK205.out⟩, ⟨by (with_reducible repeat (first | refine blk_drewN ?_ _ | refine blk_drew ?_ | refine blk_alloc ?_ _)); exact BK213.out⟩, ⟨by repeat (first | (with_reducible first | exact HB.out | apply below_alloc | apply pw_below_drewN | apply below_drew1 | refine below_set ?_ GE205.out | refine below_set ?_ GE213.out) | exact HB.out)⟩⟩
            ·rw [if_neg c37] at H
             have c37b0 : decide (((rd_T57 t209 x29_2).f0.f1) ≤ a1_1) = false := decide_eq_false c37
             clear c37
             (first | rw [c37b0] | (simp only [i64_w, i32_w]; rw [c37b0]) | skip)
             have H' := Aside0.mk H
             clear H
             have hnb45 := NB213_205.out
             have hnc45 := NB205_213.out
             have hcz46_0 : w36.cell? ⟨gb213, 0, none⟩ = some (.int .i64 ((rd_T57 t209 x29_2).f0.f0)) := (blk_cell BK213.out 0).trans rfl
             have hcz46_1 : w36.cell? ⟨gb213, 1, none⟩ = some (.int .i64 ((rd_T57 t209 x29_2).f0.f1)) := (blk_cell BK213.out 1).trans rfl
             have hcz46_2 : w36.cell? ⟨gb213, 2, none⟩ = some (.int .i64 ((rd_T57 t209 x29_2).f1.f0)) := (blk_cell BK213.out 2).trans rfl
             have hcz46_3 : w36.cell? ⟨gb213, 3, none⟩ = some (.int .i64 ((rd_T57 t209 x29_2).f1.f1)) := (blk_cell BK213.out 3).trans rfl
             have hfz46_0 := blk_frozen BK213.out 0
             have hfz46_1 := blk_frozen BK213.out 1
             have hfz46_2 := blk_frozen BK213.out 2
             have hfz46_3 := blk_frozen BK213.out 3
             have hcz47_0 : w36.cell? ⟨gb205, 0, none⟩ = some (.int .i64 a1_0) := (blk_cell BK205.out 0).trans rfl
             have hcz47_1 : w36.cell? ⟨gb205, 1, none⟩ = some (.int .i64 a1_1) := (blk_cell BK205.out 1).trans rfl
             have hfz47_0 := blk_frozen BK205.out 0
             have hfz47_1 := blk_frozen BK205.out 1
             go_wp2
             go_meet
             case rel => exact ⟨_, (false), (by first | rfl | (simp; done) | (simp [*]; done)), H', ⟨by have := HJ4.out; have := HK2.out; first | omega | exact Nat.le_refl _⟩, ⟨by (with_reducible repeat (first | apply Kd.R_alloc | apply Kd.R_drewN | apply Kd.R_drew)); exact Kd.R_mono HO_27.out (fun _ hk => hk.2)⟩, ⟨by (with_reducible repeat (first | refine blk_drewN ?_ _ | refine blk_drew ?_ | refine blk_alloc ?_ _)); exact BK205.out⟩, ⟨by (with_reducible repeat (first | refine blk_drewN ?_ _ | refine blk_drew ?_ | refine blk_alloc ?_ _)); exact BK213.out⟩, ⟨by repeat (first | (with_reducible first | exact HB.out | apply below_alloc | apply pw_below_drewN | apply below_drew1 | refine below_set ?_ GE205.out | refine below_set ?_ GE213.out) | exact HB.out)⟩⟩
           case rest =>
            clear HC28
            try clear c1
            try clear c2
            try clear p2
            try clear q2
            try clear hx2
            try clear c3
            try clear c4
            try clear c4b0
            try clear c4b1
            try clear c9
            try clear c13
            try clear c17
            try clear c17b0
            try clear c18
            try clear c18b0
            try clear c19
            try clear c19b0
            try clear c20
            try clear c21
            try clear p21
            try clear q21
            try clear hx21
            try clear c23
            try clear c30
            try clear c33
            try clear c37
            try clear c37b0
            try clear c38
            try clear c38b0
            try clear c39
            try clear c41
            try clear c42
            try clear c43
            try clear c45
            try clear hcz11_0
            try clear hcz11_1
            try clear hcz12_0
            try clear hcz12_1
            try clear hcz24_0
            try clear hcz24_1
            try clear hcz24_2
            try clear hcz24_3
            try clear hcz25_0
            try clear hcz25_1
            try clear hcz31_0
            try clear hcz31_1
            try clear hcz31_2
            try clear hcz31_3
            try clear hcz32_0
            try clear hcz32_1
            try clear hcz34_0
            try clear hcz34_1
            try clear hcz34_2
            try clear hcz34_3
            try clear hcz35_0
            try clear hcz35_1
            try clear hcz40_0
            try clear hcz40_1
            try clear hcz40_2
            try clear hcz40_3
            try clear hcz41_0
            try clear hcz41_1
            try clear hcz43_0
            try clear hcz43_1
            try clear hcz43_2
            try clear hcz43_3
            try clear hcz44_0
            try clear hcz44_1
            try clear hcz46_0
            try clear hcz46_1
            try clear hcz46_2
            try clear hcz46_3
            try clear hcz47_0
            try clear hcz47_1
            try clear hfz11_0
            try clear hfz11_1
            try clear hfz12_0
            try clear hfz12_1
            try clear hfz24_0
            try clear hfz24_1
            try clear hfz24_2
            try clear hfz24_3
            try clear hfz25_0
            try clear hfz25_1
            try clear hfz31_0
            try clear hfz31_1
            try clear hfz31_2
            try clear hfz31_3
            try clear hfz32_0
            try clear hfz32_1
            try clear hfz34_0
            try clear hfz34_1
            try clear hfz34_2
            try clear hfz34_3
            try clear hfz35_0
            try clear hfz35_1
            try clear hfz40_0
            try clear hfz40_1
            try clear hfz40_2
            try clear hfz40_3
            try clear hfz41_0
            try clear hfz41_1
            try clear hfz43_0
            try clear hfz43_1
            try clear hfz43_2
            try clear hfz43_3
            try clear hfz44_0
            try clear hfz44_1
            try clear hfz46_0
            try clear hfz46_1
            try clear hfz46_2
            try clear hfz46_3
            try clear hfz47_0
            try clear hfz47_1
            try clear hx212_0
            try clear hx212_1
            try clear hx212_2
            try clear hx212_3
            try clear p2
            try clear p212
            try clear q212
            obtain ⟨kq, x42_27, rfl, HA, HJ27, HO_27, BK205, BK213, HB⟩ := hcut
            cases kq with
            | zero => exact absurd HA.out (by simp [polygon_Where.j2])
            | succ kj27 =>
             have H := HA.out
             clear HA
             simp only [polygon_Where.j2] at H
             by_cases c48 : x42_27 = true
             ·subst c48
              have H1 : (polygon_Where.l0 kj27 (wrap64 (x7_2 + 1)) t209 (t209.length : Int) (wrap64 (x29_2 + 1)) a1_0 a1_1) = some (r1, r2) := by rw [if_pos rfl] at H; exact H
              clear H
              have H := H1
              clear H1
              have H' := Aside0.mk H
              clear H
              go_wp2
              go_roundg kj27
              case measure => have := HJ4.out; have := HK2.out; have := HJ27.out; omega
              case rel => exact ⟨(wrap64 (x7_2 + 1)), (wrap64 (x29_2 + 1)), (by first | rfl | (simp; done) | (simp [*]; done)), (by first | rfl | (simp; done) | (simp [*]; done)), H', ⟨by have := HJ4.out; have := HK2.out; have := HJ27.out; omega⟩, ⟨by (with_reducible repeat (first | apply Kd.R_alloc | apply Kd.R_drewN | apply Kd.R_drew)); exact Kd.R_mono HO_27.out (fun _ hk => trivial)⟩, ⟨by (with_reducible repeat (first | refine blk_drewN ?_ _ | refine blk_drew ?_ | refine blk_alloc ?_ _)); exact BK205.out⟩, ⟨by repeat (first | (with_reducible first | exact HB.out | apply below_alloc | apply pw_below_drewN | apply below_drew1 | refine below_set ?_ GE205.out | refine below_set ?_ GE213.out) | exact HB.out)⟩⟩
             ·replace c48 := Bool.eq_false_iff.mpr c48
              subst c48
              have H1 : (if ((rd_T57 t209 x29_2).f0.f1) > a1_1 then (if ((rd_T57 t209 x29_2).f1.f1) ≤ a1_1 then (if t215 < 0 then (polygon_Where.l0 kj27 (wrap64 (x7_2 - 1)) t209 (t209.length : Int) (wrap64 (x29_2 + 1)) a1_0 a1_1) else (polygon_Where.l0 kj27 x7_2 t209 (t209.length : Int) (wrap64 (x29_2 + 1)) a1_0 a1_1)) else (polygon_Where.l0 kj27 x7_2 t209 (t209.length : Int) (wrap64 (x29_2 + 1)) a1_0 a1_1)) else (polygon_Where.l0 kj27 x7_2 t209 (t209.length : Int) (wrap64 (x29_2 + 1)) a1_0 a1_1)) = some (r1, r2) := by rw [if_neg (show ¬ (false = true) by decide)] at H; exact H
              clear H
              have H := H1
              clear H1
              by_cases c49 : ((rd_T57 t209 x29_2).f0.f1) > a1_1
              ·rw [if_pos c49] at H
               have c49b0 : decide (a1_1 < ((rd_T57 t209 x29_2).f0.f1)) = true := decide_eq_true c49
               clear c49
               by_cases c50 : ((rd_T57 t209 x29_2).f1.f1) ≤ a1_1
               ·rw [if_pos c50] at H
                have c50b0 : decide (((rd_T57 t209 x29_2).f1.f1) ≤ a1_1) = true := decide_eq_true c50
                clear c50
                by_cases c51 : t215 < 0
                ·rw [if_pos c51] at H
                 have c51b0 : decide (t215 < 0) = true := decide_eq_true c51
                 clear c51
                 have H' := Aside0.mk H
                 clear H
                 have hnb52 := NB213_205.out
                 have hnc52 := NB205_213.out
                 have hcz53_0 : wc.cell? ⟨gb213, 0, none⟩ = some (.int .i64 ((rd_T57 t209 x29_2).f0.f0)) := (blk_cell BK213.out 0).trans rfl
                 have hcz53_1 : wc.cell? ⟨gb213, 1, none⟩ = some (.int .i64 ((rd_T57 t209 x29_2).f0.f1)) := (blk_cell BK213.out 1).trans rfl
                 have hcz53_2 : wc.cell? ⟨gb213, 2, none⟩ = some (.int .i64 ((rd_T57 t209 x29_2).f1.f0)) := (blk_cell BK213.out 2).trans rfl
                 have hcz53_3 : wc.cell? ⟨gb213, 3, none⟩ = some (.int .i64 ((rd_T57 t209 x29_2).f1.f1)) := (blk_cell BK213.out 3).trans rfl
                 have hfz53_0 := blk_frozen BK213.out 0
                 have hfz53_1 := blk_frozen BK213.out 1
                 have hfz53_2 := blk_frozen BK213.out 2
                 have hfz53_3 := blk_frozen BK213.out 3
                 have hcz54_0 : wc.cell? ⟨gb205, 0, none⟩ = some (.int .i64 a1_0) := (blk_cell BK205.out 0).trans rfl
                 have hcz54_1 : wc.cell? ⟨gb205, 1, none⟩ = some (.int .i64 a1_1) := (blk_cell BK205.out 1).trans rfl
                 have hfz54_0 := blk_frozen BK205.out 0
                 have hfz54_1 := blk_frozen BK205.out 1
                 go_wp2
                 go_roundg kj27
                 case measure => have := HJ4.out; have := HK2.out; have := HJ27.out; omega
                 case rel => exact ⟨(wrap64 (x7_2 - 1)), (wrap64 (x29_2 + 1)), (by first | rfl | (simp; done) | (simp [*]; done)), (by first | rfl | (simp; done) | (simp [*]; done)), H', ⟨by have := HJ4.out; have := HK2.out; have := HJ27.out; omega⟩, ⟨by (with_reducible repeat (first | apply Kd.R_alloc | apply Kd.R_drewN | apply Kd.R_drew)); exact Kd.R_mono HO_27.out (fun _ hk => trivial)⟩, ⟨by (with_reducible repeat (first | refine blk_drewN ?_ _ | refine blk_drew ?_ | refine blk_alloc ?_ _)); exact BK205.out⟩, ⟨by repeat (first | (with_reducible first | exact HB.out | apply below_alloc | apply pw_below_drewN | apply below_drew1 | refine below_set ?_ GE205.out | refine below_set ?_ GE213.out) | exact HB.out)⟩⟩
                ·rw [if_neg c51] at H
                 have c51b0 : decide (t215 < 0) = false := decide_eq_false c51
                 clear c51
                 have H' := Aside0.mk H
                 clear H
                 have hnb55 := NB213_205.out
                 have hnc55 := NB205_213.out
                 have hcz56_0 : wc.cell? ⟨gb213, 0, none⟩ = some (.int .i64 ((rd_T57 t209 x29_2).f0.f0)) := (blk_cell BK213.out 0).trans rfl
                 have hcz56_1 : wc.cell? ⟨gb213, 1, none⟩ = some (.int .i64 ((rd_T57 t209 x29_2).f0.f1)) := (blk_cell BK213.out 1).trans rfl
                 have hcz56_2 : wc.cell? ⟨gb213, 2, none⟩ = some (.int .i64 ((rd_T57 t209 x29_2).f1.f0)) := (blk_cell BK213.out 2).trans rfl
                 have hcz56_3 : wc.cell? ⟨gb213, 3, none⟩ = some (.int .i64 ((rd_T57 t209 x29_2).f1.f1)) := (blk_cell BK213.out 3).trans rfl
                 have hfz56_0 := blk_frozen BK213.out 0
                 have hfz56_1 := blk_frozen BK213.out 1
                 have hfz56_2 := blk_frozen BK213.out 2
                 have hfz56_3 := blk_frozen BK213.out 3
                 have hcz57_0 : wc.cell? ⟨gb205, 0, none⟩ = some (.int .i64 a1_0) := (blk_cell BK205.out 0).trans rfl
                 have hcz57_1 : wc.cell? ⟨gb205, 1, none⟩ = some (.int .i64 a1_1) := (blk_cell BK205.out 1).trans rfl
                 have hfz57_0 := blk_frozen BK205.out 0
                 have hfz57_1 := blk_frozen BK205.out 1
                 go_wp2
                 go_roundg kj27
                 case measure => have := HJ4.out; have := HK2.out; have := HJ27.out; omega
                 case rel => exact ⟨(x7_2), (wrap64 (x29_2 + 1)), (by first | rfl | (simp; done) | (simp [*]; done)), (by first | rfl | (simp; done) | (simp [*]; done)), H', ⟨by have := HJ4.out; have := HK2.out; have := HJ27.out; omega⟩, ⟨by (with_reducible repeat (first | apply Kd.R_alloc | apply Kd.R_drewN | apply Kd.R_drew)); exact Kd.R_mono HO_27.out (fun _ hk => trivial)⟩, ⟨by (with_reducible repeat (first | refine blk_drewN ?_ _ | refine blk_drew ?_ | refine blk_alloc ?_ _)); exact BK205.out⟩, ⟨by repeat (first | (with_reducible first | exact HB.out | apply below_alloc | apply pw_below_drewN | apply below_drew1 | refine below_set ?_ GE205.out | refine below_set ?_ GE213.out) | exact HB.out)⟩⟩
               ·rw [if_neg c50] at H
                have c50b0 : decide (((rd_T57 t209 x29_2).f1.f1) ≤ a1_1) = false := decide_eq_false c50
                clear c50
                have H' := Aside0.mk H
                clear H
                have hnb58 := NB213_205.out
                have hnc58 := NB205_213.out
                have hcz59_0 : wc.cell? ⟨gb213, 0, none⟩ = some (.int .i64 ((rd_T57 t209 x29_2).f0.f0)) := (blk_cell BK213.out 0).trans rfl
                have hcz59_1 : wc.cell? ⟨gb213, 1, none⟩ = some (.int .i64 ((rd_T57 t209 x29_2).f0.f1)) := (blk_cell BK213.out 1).trans rfl
                have hcz59_2 : wc.cell? ⟨gb213, 2, none⟩ = some (.int .i64 ((rd_T57 t209 x29_2).f1.f0)) := (blk_cell BK213.out 2).trans rfl
                have hcz59_3 : wc.cell? ⟨gb213, 3, none⟩ = some (.int .i64 ((rd_T57 t209 x29_2).f1.f1)) := (blk_cell BK213.out 3).trans rfl
                have hfz59_0 := blk_frozen BK213.out 0
                have hfz59_1 := blk_frozen BK213.out 1
                have hfz59_2 := blk_frozen BK213.out 2
                have hfz59_3 := blk_frozen BK213.out 3
                have hcz60_0 : wc.cell? ⟨gb205, 0, none⟩ = some (.int .i64 a1_0) := (blk_cell BK205.out 0).trans rfl
                have hcz60_1 : wc.cell? ⟨gb205, 1, none⟩ = some (.int .i64 a1_1) := (blk_cell BK205.out 1).trans rfl
                have hfz60_0 := blk_frozen BK205.out 0
                have hfz60_1 := blk_frozen BK205.out 1
                go_wp2
                go_roundg kj27
                case measure => have := HJ4.out; have := HK2.out; have := HJ27.out; omega
                case rel => exact ⟨(x7_2), (wrap64 (x29_2 + 1)), (by first | rfl | (simp; done) | (simp [*]; done)), (by first | rfl | (simp; done) | (simp [*]; done)), H', ⟨by have := HJ4.out; have := HK2.out; have := HJ27.out; omega⟩, ⟨by (with_reducible repeat (first | apply Kd.R_alloc | apply Kd.R_drewN | apply Kd.R_drew)); exact Kd.R_mono HO_27.out (fun _ hk => trivial)⟩, ⟨by (with_reducible repeat (first | refine blk_drewN ?_ _ | refine blk_drew ?_ | refine blk_alloc ?_ _)); exact BK205.out⟩, ⟨by repeat (first | (with_reducible first | exact HB.out | apply below_alloc | apply pw_below_drewN | apply below_drew1 | refine below_set ?_ GE205.out | refine below_set ?_ GE213.out) | exact HB.out)⟩⟩
              ·rw [if_neg c49] at H
               have c49b0 : decide (a1_1 < ((rd_T57 t209 x29_2).f0.f1)) = false := decide_eq_false c49
               clear c49
               have H' := Aside0.mk H
               clear H
               have hnb61 := NB213_205.out
               have hnc61 := NB205_213.out
               have hcz62_0 : wc.cell? ⟨gb213, 0, none⟩ = some (.int .i64 ((rd_T57 t209 x29_2).f0.f0)) := (blk_cell BK213.out 0).trans rfl
               have hcz62_1 : wc.cell? ⟨gb213, 1, none⟩ = some (.int .i64 ((rd_T57 t209 x29_2).f0.f1)) := (blk_cell BK213.out 1).trans rfl
               have hcz62_2 : wc.cell? ⟨gb213, 2, none⟩ = some (.int .i64 ((rd_T57 t209 x29_2).f1.f0)) := (blk_cell BK213.out 2).trans rfl
               have hcz62_3 : wc.cell? ⟨gb213, 3, none⟩ = some (.int .i64 ((rd_T57 t209 x29_2).f1.f1)) := (blk_cell BK213.out 3).trans rfl
               have hfz62_0 := blk_frozen BK213.out 0
               have hfz62_1 := blk_frozen BK213.out 1
               have hfz62_2 := blk_frozen BK213.out 2
               have hfz62_3 := blk_frozen BK213.out 3
               have hcz63_0 : wc.cell? ⟨gb205, 0, none⟩ = some (.int .i64 a1_0) := (blk_cell BK205.out 0).trans rfl
               have hcz63_1 : wc.cell? ⟨gb205, 1, none⟩ = some (.int .i64 a1_1) := (blk_cell BK205.out 1).trans rfl
               have hfz63_0 := blk_frozen BK205.out 0
               have hfz63_1 := blk_frozen BK205.out 1
               go_wp2
               go_roundg kj27
               case measure => have := HJ4.out; have := HK2.out; have := HJ27.out; omega
               case rel => exact ⟨(x7_2), (wrap64 (x29_2 + 1)), (by first | rfl | (simp; done) | (simp [*]; done)), (by first | rfl | (simp; done) | (simp [*]; done)), H', ⟨by have := HJ4.out; have := HK2.out; have := HJ27.out; omega⟩, ⟨by (with_reducible repeat (first | apply Kd.R_alloc | apply Kd.R_drewN | apply Kd.R_drew)); exact Kd.R_mono HO_27.out (fun _ hk => trivial)⟩, ⟨by (with_reducible repeat (first | refine blk_drewN ?_ _ | refine blk_drew ?_ | refine blk_alloc ?_ _)); exact BK205.out⟩, ⟨by repeat (first | (with_reducible first | exact HB.out | apply below_alloc | apply pw_below_drewN | apply below_drew1 | refine below_set ?_ GE205.out | refine below_set ?_ GE213.out) | exact HB.out)⟩⟩
         ·rw [if_neg c19] at H
          exact absurd H (by simp)
        ·rw [if_neg c18] at H
         exact absurd H (by simp)
       ·rw [if_neg c17] at H
        have c17b0 : decide (x29_2 < (t209.length : Int)) = false := decide_eq_false c17
        clear c17
        by_cases c64 : x7_2 = 0
        ·rw [if_pos c64] at H
         have c64b0 : (x7_2 == 0) = true := beq_iff_eq.mpr c64
         have c64b1 : (x7_2 != 0) = false := bne_eq_false_iff_eq.mpr c64
         clear c64
         simp only [Option.some.injEq, Prod.mk.injEq] at H
         obtain ⟨rfl, rfl⟩ := H
         go_wp2
         go_ret2
         exact ⟨by first | rfl | (simp [errW_none, errW_some] <;> rfl) | (simp [*, errW_none, errW_some] <;> rfl), by repeat (first | (with_reducible first | exact HB.out | apply below_alloc | apply pw_below_drewN | apply below_drew1 | refine below_set ?_ GE205.out) | exact HB.out)⟩
        ·rw [if_neg c64] at H
         have c64b0 : (x7_2 == 0) = false := beq_eq_false_iff_ne.mpr c64
         have c64b1 : (x7_2 != 0) = true := bne_iff_ne.mpr c64
         simp only [Option.some.injEq, Prod.mk.injEq] at H
         obtain ⟨rfl, rfl⟩ := H
         go_wp2
         go_ret2
         exact ⟨by first | rfl | (simp [errW_none, errW_some] <;> rfl) | (simp [*, errW_none, errW_some] <;> rfl), by repeat (first | (with_reducible first | exact HB.out | apply below_alloc | apply pw_below_drewN | apply below_drew1 | refine below_set ?_ GE205.out) | exact HB.out)⟩
 ·rw [if_neg c4] at H
  have c4b0 : (t206 == 0) = false := beq_eq_false_iff_ne.mpr c4
  have c4b1 : (t206 != 0) = true := bne_iff_ne.mpr c4
  simp only [Option.some.injEq, Prod.mk.injEq] at H
  obtain ⟨rfl, rfl⟩ := H
  go_enter Try.func17, Try.ntmps17
  go_wp2_with (first | ((with_reducible refine gate_dst (N := 3) rfl ?_); refine box_event ?hg (N := 3) ?hd (cs := #[.int .i64 a1_0, .int .i64 a1_1]) (t := 30) ?hr ?_; (case hd => rfl); (case hg => rfl); (case hr => first | (go_simp; done) | (go_simp; rfl)); intro gb205 hg w65 hbox hb; have n0_ := Aside0.mk (below_step (by repeat (first | (with_reducible first | exact HB.out | apply below_alloc | apply pw_below_drewN | apply below_drew1) | exact HB.out)) hb); have n1_ := Aside0.mk (hbox); have n2_ := Aside0.mk ((by rw [hg]; exact (below_size (by repeat (first | (with_reducible first | exact HB.out | apply below_alloc | apply pw_below_drewN | apply below_drew1) | exact HB.out))) : w.heap.size ≤ gb205)); have n3_ := Aside0.mk ((by rw [hg]; exact (below_size (by repeat (first | (with_reducible first | exact HB.out | apply below_alloc | apply pw_below_drewN | apply below_drew1) | exact HB.out))) : w.heap.size ≤ gb205)); clear HB; have HB := n0_; have BK205 := n1_; have GW205 := n2_; have GE205 := n3_; clear n0_ n1_ n2_ n3_; clear hb hbox hg) | ((with_reducible refine gate_callee (f := 20) rfl ?_); refine goesL_ (some 12) rfl rfl Try.func20 (by kernel_rfl) rfl #[.slice A0 l0.length c0] rfl (by (try simp only [List.map_toArray, List.map_cons, List.map_nil]); first | done | rfl | (simp only [List.length_drop, List.length_take]; rfl)) ?_; (with_reducible refine (polygon_Check.calls k _ _ l0 t206 _ ?side1 ?side2 A3.out).mono ?_); (case side1 => repeat (first | exact (Kd.C_below HR0.out HB.out) | (with_reducible refine Kd.C_alloc ?_ _) | (with_reducible refine Kd.C_drewN ?_ _) | (with_reducible refine Kd.C_drew ?_))); (case side2 => exact HC0.out); rintro e w66 ⟨rfl, hb⟩; refine ⟨_, rfl, ?_⟩; have n0_ := Aside0.mk (blk_below (g := gb205) (o := .cells #[.int .i64 a1_0, .int .i64 a1_1] 30 (0, 0)) (by (with_reducible repeat (first | refine blk_drewN ?_ _ | refine blk_drew ?_ | refine blk_alloc ?_ _)); exact BK205.out) hb); have n1_ := Aside0.mk (below_step (by repeat (first | (with_reducible first | exact HB.out | apply below_alloc | apply pw_below_drewN | apply below_drew1 | refine below_set ?_ GE205.out) | exact HB.out)) hb); clear BK205; clear HB; have BK205 := n0_; have HB := n1_; clear n0_ n1_; (try clear hb); (try clear hb2); (try clear hk); (try clear hi)))
  go_ret2
  exact ⟨by first | rfl | (simp [errW_none, errW_some] <;> rfl) | (simp [*, errW_none, errW_some] <;> rfl), by repeat (first | (with_reducible first | exact HB.out | apply below_alloc | apply pw_below_drewN | apply below_drew1 | refine below_set ?_ GE205.out) | exact HB.out)⟩
/-! ### polygon_Area2: function 21 -/
def polygon_Area2.f (k : Nat) (l0 : List (S30)) : Option (Int) := (polygon_Check.f k l0).bind fun t216 => (if t216 = 0 then ((polygon_area.f k l0).bind fun t217 => (some t217)) else (some 0))
theorem polygon_Area2.mono : ∀ a0 k, LeO (polygon_Area2.f k a0) (polygon_Area2.f (k + 1) a0) := by
 intro a0 k
 unfold polygon_Area2.f
 repeat' first
   | (with_reducible exact polygon_Check.mono _ _)
   | (with_reducible exact polygon_area.mono _ _)
   | (with_reducible exact LeO.refl _)
   | (with_reducible exact LeO.none _)
   | (with_reducible refine LeO.ite ?_ ?_)
   | (with_reducible refine LeO.bind ?_ (fun _ => ?_))
   | exact polygon_Check.mono _ _
   | exact polygon_area.mono _ _
   | exact LeO.none _
   | refine LeO.ite ?_ ?_
   | refine LeO.bind ?_ (fun _ => ?_)
set_option maxHeartbeats 8000000 in
set_option maxRecDepth 100000 in
theorem polygon_Area2.calls (k : Nat) (A0 : Option Addr) (c0 : Nat) (l0 : List (S30)) (r : Int) (w : World) (hr0 : Kd.C k30 w A0 l0.length l0) (hc0 : l0.length ≤ c0) (h : polygon_Area2.f k l0 = some r) :
  Calls Try.prog 21 #[.slice A0 l0.length c0] w fun e w' => e = .returned (.int .i64 r) ∧ Below w.heap.size w w' := by
 have HR0 := Aside0.mk hr0
 have HC0 := Aside0.mk hc0
 clear hr0 hc0
 have HB := Aside0.mk (Below.refl w.heap.size w)
 have H : ((polygon_Check.f k l0).bind fun t216 => (if t216 = 0 then ((polygon_area.f k l0).bind fun t217 => (some t217)) else (some 0))) = some r := h
 clear h
 replace H := Option.bind_eq_some_iff.mp H
 obtain ⟨t216, A20, H⟩ := H
 replace H : (if t216 = 0 then ((polygon_area.f k l0).bind fun t217 => (some t217)) else (some 0)) = some r := H
 have A2 := Aside0.mk A20
 clear A20
 by_cases c3 : t216 = 0
 ·rw [if_pos c3] at H
  have c3b0 : (t216 == 0) = true := beq_iff_eq.mpr c3
  have c3b1 : (t216 != 0) = false := bne_eq_false_iff_eq.mpr c3
  clear c3
  replace H := Option.bind_eq_some_iff.mp H
  obtain ⟨t217, A40, H⟩ := H
  replace H : (some t217) = some r := H
  have A4 := Aside0.mk A40
  clear A40
  obtain rfl := Option.some.inj H
  go_enter Try.func21, Try.ntmps21
  go_wp2_with (first | ((with_reducible refine gate_callee (f := 20) rfl ?_); refine goesL_ (some 4) rfl rfl Try.func20 (by kernel_rfl) rfl #[.slice A0 l0.length c0] rfl (by (try simp only [List.map_toArray, List.map_cons, List.map_nil]); first | done | rfl | (simp only [List.length_drop, List.length_take]; rfl)) ?_; (with_reducible refine (polygon_Check.calls k _ _ l0 t216 _ ?side1 ?side2 A2.out).mono ?_); (case side1 => repeat (first | exact HR0.out | (with_reducible refine Kd.C_alloc ?_ _) | (with_reducible refine Kd.C_drewN ?_ _) | (with_reducible refine Kd.C_drew ?_))); (case side2 => exact HC0.out); rintro e w5 ⟨rfl, hb⟩; refine ⟨_, rfl, ?_⟩; have n0_ := Aside0.mk (below_step (by repeat (first | (with_reducible first | exact HB.out | apply below_alloc | apply pw_below_drewN | apply below_drew1) | exact HB.out)) hb); clear HB; have HB := n0_; clear n0_; (try clear hb); (try clear hb2); (try clear hk); (try clear hi)) | ((with_reducible refine gate_callee (f := 34) rfl ?_); refine goesL_ (some 7) rfl rfl Try.func34 (by kernel_rfl) rfl #[.slice A0 l0.length c0] rfl (by (try simp only [List.map_toArray, List.map_cons, List.map_nil]); first | done | rfl | (simp only [List.length_drop, List.length_take]; rfl)) ?_; (with_reducible refine (polygon_area.calls k _ _ l0 t217 _ ?side1 ?side2 A4.out).mono ?_); (case side1 => repeat (first | exact (Kd.C_below HR0.out HB.out) | (with_reducible refine Kd.C_alloc ?_ _) | (with_reducible refine Kd.C_drewN ?_ _) | (with_reducible refine Kd.C_drew ?_))); (case side2 => exact HC0.out); rintro e w6 ⟨rfl, hb⟩; refine ⟨_, rfl, ?_⟩; have n0_ := Aside0.mk (below_step (by repeat (first | (with_reducible first | exact HB.out | apply below_alloc | apply pw_below_drewN | apply below_drew1) | exact HB.out)) hb); clear HB; have HB := n0_; clear n0_; (try clear hb); (try clear hb2); (try clear hk); (try clear hi)))
  go_ret
  exact ⟨by first | rfl | (simp [errW_none, errW_some] <;> rfl) | (simp [*, errW_none, errW_some] <;> rfl), by repeat (first | (with_reducible first | exact HB.out | apply below_alloc | apply pw_below_drewN | apply below_drew1) | exact HB.out)⟩
 ·rw [if_neg c3] at H
  have c3b0 : (t216 == 0) = false := beq_eq_false_iff_ne.mpr c3
  have c3b1 : (t216 != 0) = true := bne_iff_ne.mpr c3
  obtain rfl := Option.some.inj H
  go_enter Try.func21, Try.ntmps21
  go_wp2_with (first | ((with_reducible refine gate_callee (f := 20) rfl ?_); refine goesL_ (some 4) rfl rfl Try.func20 (by kernel_rfl) rfl #[.slice A0 l0.length c0] rfl (by (try simp only [List.map_toArray, List.map_cons, List.map_nil]); first | done | rfl | (simp only [List.length_drop, List.length_take]; rfl)) ?_; (with_reducible refine (polygon_Check.calls k _ _ l0 t216 _ ?side1 ?side2 A2.out).mono ?_); (case side1 => repeat (first | exact HR0.out | (with_reducible refine Kd.C_alloc ?_ _) | (with_reducible refine Kd.C_drewN ?_ _) | (with_reducible refine Kd.C_drew ?_))); (case side2 => exact HC0.out); rintro e w7 ⟨rfl, hb⟩; refine ⟨_, rfl, ?_⟩; have n0_ := Aside0.mk (below_step (by repeat (first | (with_reducible first | exact HB.out | apply below_alloc | apply pw_below_drewN | apply below_drew1) | exact HB.out)) hb); clear HB; have HB := n0_; clear n0_; (try clear hb); (try clear hb2); (try clear hk); (try clear hi)))
  go_ret
  exact ⟨by first | rfl | (simp [errW_none, errW_some] <;> rfl) | (simp [*, errW_none, errW_some] <;> rfl), by repeat (first | (with_reducible first | exact HB.out | apply below_alloc | apply pw_below_drewN | apply below_drew1) | exact HB.out)⟩
end Go.Proofs.Ytccinkbneimmhaa.PPolygonCorners
