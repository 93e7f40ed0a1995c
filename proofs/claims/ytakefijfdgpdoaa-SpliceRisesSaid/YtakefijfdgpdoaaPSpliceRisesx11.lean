/- Written by a program of this session out of the translation. -/
import Derived.Test.YtakefijfdgpdoaaPSpliceRisesx0
import Derived.Test.YtakefijfdgpdoaaPSpliceRisesx3
import Derived.Test.YtakefijfdgpdoaaPSpliceRisesx9
import Derived.Test.YtakefijfdgpdoaaPSpliceRisesx10
namespace Go.Proofs.Ytakefijfdgpdoaa.PSpliceRises
open Go.RowKit Go.Proofs.YtakefijfdgpdoaaW.PrintWords Go.Proofs.YtakefijfdgpdoaaW.PrintLast Go.Proofs.YtakefijfdgpdoaaW.PrintMore
attribute [local go_sem] max2_int min2_int max_two min_two max_three min_three max_four min_four   -- for this text's walks alone
set_option linter.unusedVariables false
set_option linter.unusedSimpArgs false

/-! ### garmentlaw37_SpliceRises: function 5 -/
mutual
def garmentlaw37_SpliceRises.j0 : Nat → Int → List (List (S47)) → Int → Int → Bool → Option (Bool)
  | 0, _, _, _, _, _ => none
  | k + 1, x0, x1, x2, x3, x31 => if x31 = true then ((garmentlaw37_awake.f k).bind fun t231 => (some t231)) else ((splice_Back.f k x0 x1 x2).bind fun bt232 => ((splice_Back.f k x0 x1 x3).bind fun bt234 => (if bt232.2 = 0 then (garmentlaw37_SpliceRises.j1 k x0 x1 x2 bt232.1 bt234.1 (bt234.2 != 0)) else (garmentlaw37_SpliceRises.j1 k x0 x1 x2 bt232.1 bt234.1 true))))
def garmentlaw37_SpliceRises.j1 : Nat → Int → List (List (S47)) → Int → Int → Int → Bool → Option (Bool)
  | 0, _, _, _, _, _, _ => none
  | k + 1, x0, x1, x2, x9, x11, x52 => if x52 = true then ((garmentlaw37_awake.f k).bind fun t236 => (some t236)) else (if 1 ≤ (x1.length : Int) then ((splice_Back.f k x0 (x1.drop 1) x2).bind fun bt241 => ((splice_Back.f k x0 x1 0).bind fun bt243 => ((splice_Back.f k x0 x1 x0).bind fun bt245 => (if bt241.2 = 0 then (if bt243.2 = 0 then (if bt245.2 = 0 then (if x9 ≤ x11 then (if x9 ≤ bt241.1 then (if bt243.1 = 0 then (if bt245.1 = x0 then ((garmentlaw37_awake.f k).bind fun t247 => (some t247)) else (none)) else (none)) else (none)) else (none)) else (none)) else (none)) else (none))))) else (none))
end
def garmentlaw37_SpliceRises.f (k : Nat) (a0 : Int) (l1 : List (List (S47))) (a2 : Int) (a3 : Int) : Option (Bool) := (garmentref37_Few.f k l1 30).bind fun t230 => (if t230 = true then (if (l1.length : Int) = 0 then (garmentlaw37_SpliceRises.j0 k a0 l1 a2 a3 true) else (garmentlaw37_SpliceRises.j0 k a0 l1 a2 a3 (decide (a2 > a3)))) else (garmentlaw37_SpliceRises.j0 k a0 l1 a2 a3 true))
theorem garmentlaw37_SpliceRises.mono_l : ∀ k, (∀ y0 y1 y2 y3 y4, LeO (garmentlaw37_SpliceRises.j0 k y0 y1 y2 y3 y4) (garmentlaw37_SpliceRises.j0 (k + 1) y0 y1 y2 y3 y4)) ∧ (∀ y0 y1 y2 y3 y4 y5, LeO (garmentlaw37_SpliceRises.j1 k y0 y1 y2 y3 y4 y5) (garmentlaw37_SpliceRises.j1 (k + 1) y0 y1 y2 y3 y4 y5))
  | 0 => ⟨fun _ _ _ _ _ r h => by simp [garmentlaw37_SpliceRises.j0] at h, fun _ _ _ _ _ _ r h => by simp [garmentlaw37_SpliceRises.j1] at h⟩
  | k + 1 => by
    obtain ⟨ih0, ih1⟩ := garmentlaw37_SpliceRises.mono_l k
    refine ⟨?_, ?_⟩
    · intro y0 y1 y2 y3 y4
      unfold garmentlaw37_SpliceRises.j0
      repeat' first
      | (with_reducible exact ih0 _ _ _ _ _)
      | (with_reducible exact ih1 _ _ _ _ _ _)
      | (with_reducible exact garmentlaw37_awake.mono _)
      | (with_reducible exact garmentref37_Few.mono _ _ _)
      | (with_reducible exact splice_Back.mono _ _ _ _)
      | (with_reducible exact LeO.refl _)
      | (with_reducible exact LeO.none _)
      | (with_reducible refine LeO.ite ?_ ?_)
      | (with_reducible refine LeO.bind ?_ (fun _ => ?_))
      | exact ih0 _ _ _ _ _
      | exact ih1 _ _ _ _ _ _
      | exact garmentlaw37_awake.mono _
      | exact garmentref37_Few.mono _ _ _
      | exact splice_Back.mono _ _ _ _
      | exact LeO.none _
      | refine LeO.ite ?_ ?_
      | refine LeO.bind ?_ (fun _ => ?_)
    · intro y0 y1 y2 y3 y4 y5
      unfold garmentlaw37_SpliceRises.j1
      repeat' first
      | (with_reducible exact ih0 _ _ _ _ _)
      | (with_reducible exact ih1 _ _ _ _ _ _)
      | (with_reducible exact garmentlaw37_awake.mono _)
      | (with_reducible exact garmentref37_Few.mono _ _ _)
      | (with_reducible exact splice_Back.mono _ _ _ _)
      | (with_reducible exact LeO.refl _)
      | (with_reducible exact LeO.none _)
      | (with_reducible refine LeO.ite ?_ ?_)
      | (with_reducible refine LeO.bind ?_ (fun _ => ?_))
      | exact ih0 _ _ _ _ _
      | exact ih1 _ _ _ _ _ _
      | exact garmentlaw37_awake.mono _
      | exact garmentref37_Few.mono _ _ _
      | exact splice_Back.mono _ _ _ _
      | exact LeO.none _
      | refine LeO.ite ?_ ?_
      | refine LeO.bind ?_ (fun _ => ?_)
theorem garmentlaw37_SpliceRises.mono : ∀ a0 a1 a2 a3 k, LeO (garmentlaw37_SpliceRises.f k a0 a1 a2 a3) (garmentlaw37_SpliceRises.f (k + 1) a0 a1 a2 a3) := by
  intro a0 a1 a2 a3 k
  obtain ⟨ih0, ih1⟩ := garmentlaw37_SpliceRises.mono_l k
  unfold garmentlaw37_SpliceRises.f
  repeat' first
      | (with_reducible exact ih0 _ _ _ _ _)
      | (with_reducible exact ih1 _ _ _ _ _ _)
      | (with_reducible exact garmentlaw37_awake.mono _)
      | (with_reducible exact garmentref37_Few.mono _ _ _)
      | (with_reducible exact splice_Back.mono _ _ _ _)
      | (with_reducible exact LeO.refl _)
      | (with_reducible exact LeO.none _)
      | (with_reducible refine LeO.ite ?_ ?_)
      | (with_reducible refine LeO.bind ?_ (fun _ => ?_))
      | exact ih0 _ _ _ _ _
      | exact ih1 _ _ _ _ _ _
      | exact garmentlaw37_awake.mono _
      | exact garmentref37_Few.mono _ _ _
      | exact splice_Back.mono _ _ _ _
      | exact LeO.none _
      | refine LeO.ite ?_ ?_
      | refine LeO.bind ?_ (fun _ => ?_)
set_option maxHeartbeats 8000000 in
set_option maxRecDepth 100000 in
theorem garmentlaw37_SpliceRises.calls (k : Nat) (a0 : Int) (A1 : Option Addr) (c1 : Nat) (l1 : List (List (S47))) (a2 : Int) (a3 : Int) (r : Bool) (w : World) (hr1 : Kd.C (Kd.slice 47 k47) w A1 l1.length l1) (hc1 : l1.length ≤ c1) (h : garmentlaw37_SpliceRises.f k a0 l1 a2 a3 = some r) :
    Calls Try.prog 5 #[.int .i64 a0, .slice A1 l1.length c1, .int .i64 a2, .int .i64 a3] w fun e w' => e = .returned (.bool r) ∧ Below w.heap.size w w' := by
  have HR1 := Aside0.mk hr1
  have HC1 := Aside0.mk hc1
  clear hr1 hc1
  have HB := Aside0.mk (Below.refl w.heap.size w)
  have H : ((garmentref37_Few.f k l1 30).bind fun t230 => (if t230 = true then (if (l1.length : Int) = 0 then (garmentlaw37_SpliceRises.j0 k a0 l1 a2 a3 true) else (garmentlaw37_SpliceRises.j0 k a0 l1 a2 a3 (decide (a2 > a3)))) else (garmentlaw37_SpliceRises.j0 k a0 l1 a2 a3 true))) = some r := h
  clear h
  have HC5 := Aside0.mk H
  clear H
  go_enter Try.func5, Try.ntmps5
  go_upto_region 1 with (fail)
  go_cut [31] (fun v31 wc => ∃ (kq : Nat) (x31_4 : Bool), v31 = .bool x31_4 ∧ Aside0 (garmentlaw37_SpliceRises.j0 kq a0 l1 a2 a3 x31_4 = some r) ∧ Aside0 (kq ≤ k) ∧ Aside0 (Below w.heap.size w wc))
  case first =>
    have H := HC5.out
    clear HC5
    replace H := Option.bind_eq_some_iff.mp H
    obtain ⟨t230, A60, H⟩ := H
    replace H : (if t230 = true then (if (l1.length : Int) = 0 then (garmentlaw37_SpliceRises.j0 k a0 l1 a2 a3 true) else (garmentlaw37_SpliceRises.j0 k a0 l1 a2 a3 (decide (a2 > a3)))) else (garmentlaw37_SpliceRises.j0 k a0 l1 a2 a3 true)) = some r := H
    have A6 := Aside0.mk A60
    clear A60
    by_cases c7 : t230 = true
    · subst c7
      have H1 : (if (l1.length : Int) = 0 then (garmentlaw37_SpliceRises.j0 k a0 l1 a2 a3 true) else (garmentlaw37_SpliceRises.j0 k a0 l1 a2 a3 (decide (a2 > a3)))) = some r := by rw [if_pos rfl] at H; exact H
      clear H
      have H := H1
      clear H1
      by_cases c8 : (l1.length : Int) = 0
      · rw [if_pos c8] at H
        have c8b0 : ((l1.length : Int) == 0) = true := beq_iff_eq.mpr c8
        have c8b1 : ((l1.length : Int) != 0) = false := bne_eq_false_iff_eq.mpr c8
        clear c8
        (first | rw [c8b0] | (simp only [i64_w, i32_w]; rw [c8b0]) | skip)
        have H' := Aside0.mk H
        clear H
        go_wp2_with (first | ((with_reducible refine gate_callee (f := 7) rfl ?_); refine goesL_ (some 20) rfl rfl Try.func7 (by kernel_rfl) rfl #[.slice A1 l1.length c1, .int .i64 30] rfl (by (try simp only [List.map_toArray, List.map_cons, List.map_nil]); first | done | rfl | (simp only [List.length_drop, List.length_take]; rfl)) ?_; (with_reducible refine (garmentref37_Few.calls k _ _ l1 30 true _ ?side1 ?side2 A6.out).mono ?_); (case side1 => repeat (first | exact (Kd.C_below HR1.out HB.out) | (with_reducible refine Kd.C_alloc ?_ _) | (with_reducible refine Kd.C_drewN ?_ _) | (with_reducible refine Kd.C_drew ?_))); (case side2 => exact HC1.out); rintro e w' ⟨rfl, ⟨nd, rfl⟩⟩; refine ⟨_, rfl, ?_⟩))
        go_meet
        case rel => exact ⟨_, (true), (by first | rfl | (simp; done) | (simp [*]; done)), H', ⟨by first | omega | exact Nat.le_refl _⟩, ⟨by repeat (first | (with_reducible first | exact HB.out | apply below_alloc | apply pw_below_drewN | apply below_drew1) | exact HB.out)⟩⟩
      · rw [if_neg c8] at H
        have c8b0 : ((l1.length : Int) == 0) = false := beq_eq_false_iff_ne.mpr c8
        have c8b1 : ((l1.length : Int) != 0) = true := bne_iff_ne.mpr c8
        have c8b2 : ¬ (l1 = []) := fun h_ => c8 (by rw [h_]; rfl)
        (first | rw [c8b0] | (simp only [i64_w, i32_w]; rw [c8b0]) | skip)
        have H' := Aside0.mk H
        clear H
        go_wp2_with (first | ((with_reducible refine gate_callee (f := 7) rfl ?_); refine goesL_ (some 20) rfl rfl Try.func7 (by kernel_rfl) rfl #[.slice A1 l1.length c1, .int .i64 30] rfl (by (try simp only [List.map_toArray, List.map_cons, List.map_nil]); first | done | rfl | (simp only [List.length_drop, List.length_take]; rfl)) ?_; (with_reducible refine (garmentref37_Few.calls k _ _ l1 30 true _ ?side1 ?side2 A6.out).mono ?_); (case side1 => repeat (first | exact (Kd.C_below HR1.out HB.out) | (with_reducible refine Kd.C_alloc ?_ _) | (with_reducible refine Kd.C_drewN ?_ _) | (with_reducible refine Kd.C_drew ?_))); (case side2 => exact HC1.out); rintro e w' ⟨rfl, ⟨nd, rfl⟩⟩; refine ⟨_, rfl, ?_⟩))
        go_meet
        case rel => exact ⟨_, (decide (a2 > a3)), (by first | rfl | (simp; done) | (simp [*]; done)), H', ⟨by first | omega | exact Nat.le_refl _⟩, ⟨by repeat (first | (with_reducible first | exact HB.out | apply below_alloc | apply pw_below_drewN | apply below_drew1) | exact HB.out)⟩⟩
    · replace c7 := Bool.eq_false_iff.mpr c7
      subst c7
      have H1 : (garmentlaw37_SpliceRises.j0 k a0 l1 a2 a3 true) = some r := by rw [if_neg (show ¬ (false = true) by decide)] at H; exact H
      clear H
      have H := H1
      clear H1
      have H' := Aside0.mk H
      clear H
      go_wp2_with (first | ((with_reducible refine gate_callee (f := 7) rfl ?_); refine goesL_ (some 20) rfl rfl Try.func7 (by kernel_rfl) rfl #[.slice A1 l1.length c1, .int .i64 30] rfl (by (try simp only [List.map_toArray, List.map_cons, List.map_nil]); first | done | rfl | (simp only [List.length_drop, List.length_take]; rfl)) ?_; (with_reducible refine (garmentref37_Few.calls k _ _ l1 30 false _ ?side1 ?side2 A6.out).mono ?_); (case side1 => repeat (first | exact (Kd.C_below HR1.out HB.out) | (with_reducible refine Kd.C_alloc ?_ _) | (with_reducible refine Kd.C_drewN ?_ _) | (with_reducible refine Kd.C_drew ?_))); (case side2 => exact HC1.out); rintro e w' ⟨rfl, ⟨nd, rfl⟩⟩; refine ⟨_, rfl, ?_⟩))
      go_meet
      case rel => exact ⟨_, (true), (by first | rfl | (simp; done) | (simp [*]; done)), H', ⟨by first | omega | exact Nat.le_refl _⟩, ⟨by repeat (first | (with_reducible first | exact HB.out | apply below_alloc | apply pw_below_drewN | apply below_drew1) | exact HB.out)⟩⟩
  case rest =>
    clear HC5
    try clear c1
    try clear p2
    try clear c5
    try clear c7
    try clear c8
    try clear c8b0
    try clear c8b1
    try clear c8b2
    obtain ⟨kq, x31_4, rfl, HA, HJ4, HB⟩ := hcut
    cases kq with
    | zero => exact absurd HA.out (by simp [garmentlaw37_SpliceRises.j0])
    | succ kj4 =>
      have H := HA.out
      clear HA
      simp only [garmentlaw37_SpliceRises.j0] at H
      by_cases c9 : x31_4 = true
      · subst c9
        have H1 : ((garmentlaw37_awake.f kj4).bind fun t231 => (some t231)) = some r := by rw [if_pos rfl] at H; exact H
        clear H
        have H := H1
        clear H1
        replace H := Option.bind_eq_some_iff.mp H
        obtain ⟨t231, A100, H⟩ := H
        replace H : (some t231) = some r := H
        have A10 := Aside0.mk A100
        clear A100
        obtain rfl := Option.some.inj H
        go_wp2_with (first | ((with_reducible refine gate_callee (f := 8) rfl ?_); refine goesL_ (some 32) rfl rfl Try.func8 (by kernel_rfl) rfl #[] rfl (by (try simp only [List.map_toArray, List.map_cons, List.map_nil]); first | done | rfl | (simp only [List.length_drop, List.length_take]; rfl)) ?_; (with_reducible refine (garmentlaw37_awake.calls kj4  t231 _ A10.out).mono ?_); rintro e w11 ⟨rfl, hb⟩; refine ⟨_, rfl, ?_⟩; have n0_ := Aside0.mk (below_step (by repeat (first | (with_reducible first | exact HB.out | apply below_alloc | apply pw_below_drewN | apply below_drew1) | exact HB.out)) hb); clear HB; have HB := n0_; clear n0_; (try clear hb); (try clear hb2); (try clear hk); (try clear hi)))
        go_ret
        exact ⟨by first | rfl | (simp [errW_none, errW_some] <;> rfl) | (simp [*, errW_none, errW_some] <;> rfl), by repeat (first | (with_reducible first | exact HB.out | apply below_alloc | apply pw_below_drewN | apply below_drew1) | exact HB.out)⟩
      · replace c9 := Bool.eq_false_iff.mpr c9
        subst c9
        have H1 : ((splice_Back.f kj4 a0 l1 a2).bind fun bt232 => ((splice_Back.f kj4 a0 l1 a3).bind fun bt234 => (if bt232.2 = 0 then (garmentlaw37_SpliceRises.j1 kj4 a0 l1 a2 bt232.1 bt234.1 (bt234.2 != 0)) else (garmentlaw37_SpliceRises.j1 kj4 a0 l1 a2 bt232.1 bt234.1 true)))) = some r := by rw [if_neg (show ¬ (false = true) by decide)] at H; exact H
        clear H
        have H := H1
        clear H1
        replace H := Option.bind_eq_some_iff.mp H
        obtain ⟨⟨t232, t233⟩, A120, H⟩ := H
        replace H : ((splice_Back.f kj4 a0 l1 a3).bind fun bt234 => (if t233 = 0 then (garmentlaw37_SpliceRises.j1 kj4 a0 l1 a2 t232 bt234.1 (bt234.2 != 0)) else (garmentlaw37_SpliceRises.j1 kj4 a0 l1 a2 t232 bt234.1 true))) = some r := H
        have A12 := Aside0.mk A120
        clear A120
        replace H := Option.bind_eq_some_iff.mp H
        obtain ⟨⟨t234, t235⟩, A130, H⟩ := H
        replace H : (if t233 = 0 then (garmentlaw37_SpliceRises.j1 kj4 a0 l1 a2 t232 t234 (t235 != 0)) else (garmentlaw37_SpliceRises.j1 kj4 a0 l1 a2 t232 t234 true)) = some r := H
        have A13 := Aside0.mk A130
        clear A130
        have HC14 := Aside0.mk H
        clear H
        go_upto_region 5 with (first | ((with_reducible refine gate_callee (f := 9) rfl ?_); refine goesL_ (some 37) rfl rfl Try.func9 (by kernel_rfl) rfl #[.int .i64 a0, .slice A1 l1.length c1, .int .i64 a2] rfl (by (try simp only [List.map_toArray, List.map_cons, List.map_nil]); first | done | rfl | (simp only [List.length_drop, List.length_take]; rfl)) ?_; (with_reducible refine (splice_Back.calls kj4 a0 _ _ l1 a2 t232 t233 _ ?side1 ?side2 A12.out).mono ?_); (case side1 => repeat (first | exact (Kd.C_below HR1.out HB.out) | (with_reducible refine Kd.C_alloc ?_ _) | (with_reducible refine Kd.C_drewN ?_ _) | (with_reducible refine Kd.C_drew ?_))); (case side2 => exact HC1.out); rintro e w15 ⟨rfl, hb⟩; refine ⟨_, rfl, ?_⟩; have n0_ := Aside0.mk (below_step (by repeat (first | (with_reducible first | exact HB.out | apply below_alloc | apply pw_below_drewN | apply below_drew1) | exact HB.out)) hb); clear HB; have HB := n0_; clear n0_; (try clear hb); (try clear hb2); (try clear hk); (try clear hi)) | ((with_reducible refine gate_callee (f := 9) rfl ?_); refine goesL_ (some 44) rfl rfl Try.func9 (by kernel_rfl) rfl #[.int .i64 a0, .slice A1 l1.length c1, .int .i64 a3] rfl (by (try simp only [List.map_toArray, List.map_cons, List.map_nil]); first | done | rfl | (simp only [List.length_drop, List.length_take]; rfl)) ?_; (with_reducible refine (splice_Back.calls kj4 a0 _ _ l1 a3 t234 t235 _ ?side1 ?side2 A13.out).mono ?_); (case side1 => repeat (first | exact (Kd.C_below HR1.out HB.out) | (with_reducible refine Kd.C_alloc ?_ _) | (with_reducible refine Kd.C_drewN ?_ _) | (with_reducible refine Kd.C_drew ?_))); (case side2 => exact HC1.out); rintro e w16 ⟨rfl, hb⟩; refine ⟨_, rfl, ?_⟩; have n0_ := Aside0.mk (below_step (by repeat (first | (with_reducible first | exact HB.out | apply below_alloc | apply pw_below_drewN | apply below_drew1) | exact HB.out)) hb); clear HB; have HB := n0_; clear n0_; (try clear hb); (try clear hb2); (try clear hk); (try clear hi)))
        (try simp only [Act.put, List.setIfInBounds_toArray, List.set_cons_zero, List.set_cons_succ])
        go_cut [52] (fun v52 wc => ∃ (kq : Nat) (x52_13 : Bool), v52 = .bool x52_13 ∧ Aside0 (garmentlaw37_SpliceRises.j1 kq a0 l1 a2 t232 t234 x52_13 = some r) ∧ Aside0 (kq ≤ kj4) ∧ Aside0 (Below w.heap.size w wc))
        case first =>
          have H := HC14.out
          clear HC14
          by_cases c17 : t233 = 0
          · rw [if_pos c17] at H
            have c17b0 : (t233 == 0) = true := beq_iff_eq.mpr c17
            have c17b1 : (t233 != 0) = false := bne_eq_false_iff_eq.mpr c17
            clear c17
            (first | rw [c17b0] | (simp only [i64_w, i32_w]; rw [c17b0]) | skip)
            have H' := Aside0.mk H
            clear H
            go_wp2
            go_meet
            case rel => exact ⟨_, ((t235 != 0)), (by first | rfl | (simp; done) | (simp [*]; done)), H', ⟨by have := HJ4.out; first | omega | exact Nat.le_refl _⟩, ⟨by repeat (first | (with_reducible first | exact HB.out | apply below_alloc | apply pw_below_drewN | apply below_drew1) | exact HB.out)⟩⟩
          · rw [if_neg c17] at H
            have c17b0 : (t233 == 0) = false := beq_eq_false_iff_ne.mpr c17
            have c17b1 : (t233 != 0) = true := bne_iff_ne.mpr c17
            (first | rw [c17b0] | (simp only [i64_w, i32_w]; rw [c17b0]) | skip)
            have H' := Aside0.mk H
            clear H
            go_wp2
            go_meet
            case rel => exact ⟨_, (true), (by first | rfl | (simp; done) | (simp [*]; done)), H', ⟨by have := HJ4.out; first | omega | exact Nat.le_refl _⟩, ⟨by repeat (first | (with_reducible first | exact HB.out | apply below_alloc | apply pw_below_drewN | apply below_drew1) | exact HB.out)⟩⟩
        case rest =>
          clear HC14
          try clear c1
          try clear p2
          try clear c5
          try clear c7
          try clear c8
          try clear c8b0
          try clear c8b1
          try clear c8b2
          try clear c9
          try clear c17
          try clear c17b0
          try clear c17b1
          try clear p2
          obtain ⟨kq, x52_13, rfl, HA, HJ13, HB⟩ := hcut
          cases kq with
          | zero => exact absurd HA.out (by simp [garmentlaw37_SpliceRises.j1])
          | succ kj13 =>
            have H := HA.out
            clear HA
            simp only [garmentlaw37_SpliceRises.j1] at H
            by_cases c18 : x52_13 = true
            · subst c18
              have H1 : ((garmentlaw37_awake.f kj13).bind fun t236 => (some t236)) = some r := by rw [if_pos rfl] at H; exact H
              clear H
              have H := H1
              clear H1
              replace H := Option.bind_eq_some_iff.mp H
              obtain ⟨t236, A190, H⟩ := H
              replace H : (some t236) = some r := H
              have A19 := Aside0.mk A190
              clear A190
              obtain rfl := Option.some.inj H
              go_wp2_with (first | ((with_reducible refine gate_callee (f := 8) rfl ?_); refine goesL_ (some 53) rfl rfl Try.func8 (by kernel_rfl) rfl #[] rfl (by (try simp only [List.map_toArray, List.map_cons, List.map_nil]); first | done | rfl | (simp only [List.length_drop, List.length_take]; rfl)) ?_; (with_reducible refine (garmentlaw37_awake.calls kj13  t236 _ A19.out).mono ?_); rintro e w20 ⟨rfl, hb⟩; refine ⟨_, rfl, ?_⟩; have n0_ := Aside0.mk (below_step (by repeat (first | (with_reducible first | exact HB.out | apply below_alloc | apply pw_below_drewN | apply below_drew1) | exact HB.out)) hb); clear HB; have HB := n0_; clear n0_; (try clear hb); (try clear hb2); (try clear hk); (try clear hi)))
              go_ret
              exact ⟨by first | rfl | (simp [errW_none, errW_some] <;> rfl) | (simp [*, errW_none, errW_some] <;> rfl), by repeat (first | (with_reducible first | exact HB.out | apply below_alloc | apply pw_below_drewN | apply below_drew1) | exact HB.out)⟩
            · replace c18 := Bool.eq_false_iff.mpr c18
              subst c18
              have H1 : (if 1 ≤ (l1.length : Int) then ((splice_Back.f kj13 a0 (l1.drop 1) a2).bind fun bt241 => ((splice_Back.f kj13 a0 l1 0).bind fun bt243 => ((splice_Back.f kj13 a0 l1 a0).bind fun bt245 => (if bt241.2 = 0 then (if bt243.2 = 0 then (if bt245.2 = 0 then (if t232 ≤ t234 then (if t232 ≤ bt241.1 then (if bt243.1 = 0 then (if bt245.1 = a0 then ((garmentlaw37_awake.f kj13).bind fun t247 => (some t247)) else (none)) else (none)) else (none)) else (none)) else (none)) else (none)) else (none))))) else (none)) = some r := by rw [if_neg (show ¬ (false = true) by decide)] at H; exact H
              clear H
              have H := H1
              clear H1
              by_cases c21 : 1 ≤ (l1.length : Int)
              · rw [if_pos c21] at H
                have c21b0 := eq_true c21
                have c21b1 : decide (1 ≤ (l1.length : Int)) = true := decide_eq_true c21
                clear c21
                obtain ⟨y237, hy237⟩ : ∃ y_ : List (List (S47)), y_ = (l1.drop 1) := ⟨_, rfl⟩
                replace H : ((splice_Back.f kj13 a0 y237 a2).bind fun bt241 => ((splice_Back.f kj13 a0 l1 0).bind fun bt243 => ((splice_Back.f kj13 a0 l1 a0).bind fun bt245 => (if bt241.2 = 0 then (if bt243.2 = 0 then (if bt245.2 = 0 then (if t232 ≤ t234 then (if t232 ≤ bt241.1 then (if bt243.1 = 0 then (if bt245.1 = a0 then ((garmentlaw37_awake.f kj13).bind fun t247 => (some t247)) else (none)) else (none)) else (none)) else (none)) else (none)) else (none)) else (none))))) = some r := by first | (rw [hy237]; with_reducible exact H) | (have H2_ := (Option.bind_some _ _).symm.trans H; rw [hy237]; with_reducible exact H2_) | (have H2_ := (Option.bind_some _ _).symm.trans H; with_reducible exact H2_) | with_reducible exact H | (rw [hy237]; exact H) | exact H
                have Ny237 := Aside0.mk hy237
                clear hy237
                replace H := Option.bind_eq_some_iff.mp H
                obtain ⟨⟨t241, t242⟩, A220, H⟩ := H
                replace H : ((splice_Back.f kj13 a0 l1 0).bind fun bt243 => ((splice_Back.f kj13 a0 l1 a0).bind fun bt245 => (if t242 = 0 then (if bt243.2 = 0 then (if bt245.2 = 0 then (if t232 ≤ t234 then (if t232 ≤ t241 then (if bt243.1 = 0 then (if bt245.1 = a0 then ((garmentlaw37_awake.f kj13).bind fun t247 => (some t247)) else (none)) else (none)) else (none)) else (none)) else (none)) else (none)) else (none)))) = some r := H
                have A22 := Aside0.mk A220
                clear A220
                replace H := Option.bind_eq_some_iff.mp H
                obtain ⟨⟨t243, t244⟩, A230, H⟩ := H
                replace H : ((splice_Back.f kj13 a0 l1 a0).bind fun bt245 => (if t242 = 0 then (if t244 = 0 then (if bt245.2 = 0 then (if t232 ≤ t234 then (if t232 ≤ t241 then (if t243 = 0 then (if bt245.1 = a0 then ((garmentlaw37_awake.f kj13).bind fun t247 => (some t247)) else (none)) else (none)) else (none)) else (none)) else (none)) else (none)) else (none))) = some r := H
                have A23 := Aside0.mk A230
                clear A230
                replace H := Option.bind_eq_some_iff.mp H
                obtain ⟨⟨t245, t246⟩, A240, H⟩ := H
                replace H : (if t242 = 0 then (if t244 = 0 then (if t246 = 0 then (if t232 ≤ t234 then (if t232 ≤ t241 then (if t243 = 0 then (if t245 = a0 then ((garmentlaw37_awake.f kj13).bind fun t247 => (some t247)) else (none)) else (none)) else (none)) else (none)) else (none)) else (none)) else (none)) = some r := H
                have A24 := Aside0.mk A240
                clear A240
                by_cases c25 : t242 = 0
                · rw [if_pos c25] at H
                  have c25b0 : (t242 == 0) = true := beq_iff_eq.mpr c25
                  have c25b1 : (t242 != 0) = false := bne_eq_false_iff_eq.mpr c25
                  clear c25
                  by_cases c26 : t244 = 0
                  · rw [if_pos c26] at H
                    have c26b0 : (t244 == 0) = true := beq_iff_eq.mpr c26
                    have c26b1 : (t244 != 0) = false := bne_eq_false_iff_eq.mpr c26
                    clear c26
                    by_cases c27 : t246 = 0
                    · rw [if_pos c27] at H
                      have c27b0 : (t246 == 0) = true := beq_iff_eq.mpr c27
                      have c27b1 : (t246 != 0) = false := bne_eq_false_iff_eq.mpr c27
                      clear c27
                      by_cases c28 : t232 ≤ t234
                      · rw [if_pos c28] at H
                        have c28b0 : decide (t232 ≤ t234) = true := decide_eq_true c28
                        clear c28
                        by_cases c29 : t232 ≤ t241
                        · rw [if_pos c29] at H
                          have c29b0 : decide (t232 ≤ t241) = true := decide_eq_true c29
                          clear c29
                          by_cases c30 : t243 = 0
                          · rw [if_pos c30] at H
                            have c30b0 : (t243 == 0) = true := beq_iff_eq.mpr c30
                            have c30b1 : (t243 != 0) = false := bne_eq_false_iff_eq.mpr c30
                            clear c30
                            by_cases c31 : t245 = a0
                            · rw [if_pos c31] at H
                              have c31b0 : (t245 == a0) = true := beq_iff_eq.mpr c31
                              have c31b1 : (t245 != a0) = false := bne_eq_false_iff_eq.mpr c31
                              clear c31
                              replace H := Option.bind_eq_some_iff.mp H
                              obtain ⟨t247, A320, H⟩ := H
                              replace H : (some t247) = some r := H
                              have A32 := Aside0.mk A320
                              clear A320
                              obtain rfl := Option.some.inj H
                              have q33 : (1 : Int) ≤ ((l1.length : Int) : Int) := of_decide_eq_true (by first | (with_reducible assumption) | assumption)
                              obtain ⟨i033, hi033, _, hsz33, _⟩ := info_parts info38
                              have hroom33 : l1.length ≤ c1 := HC1.out
                              have hC33 : Kd.C (Kd.slice 47 k47) _ A1 l1.length l1 := HR1.out
                              have hcut33 := cut_from (P := Try.prog) 22 38 .i64 Try.underlying22 hi033 1 hsz33 A1 l1.length c1 1 (by omega) q33
                              have hr33 := Kd.C_drop (m := (1 : Int).toNat) (c := c1) hC33 (by omega) hroom33
                              obtain ⟨A33, hA33⟩ : ∃ Az_, Az_ = (if c1 = (1 : Int).toNat then A1 else (A1 : Option Addr).map (·.add ((1 : Int).toNat * 1))) := ⟨_, rfl⟩
                              obtain ⟨c33, hc33⟩ : ∃ cz_, cz_ = c1 - (1 : Int).toNat := ⟨_, rfl⟩
                              have hy33 : y237.length = l1.length - (1 : Int).toNat := (by rw [Ny237.out, List.length_drop] <;> omega)
                              rw [show (l1).drop (1 : Int).toNat = y237 from Ny237.out.symm] at hr33
                              replace hr33 : Kd.C (Kd.slice 47 k47) _ A33 y237.length y237 := (by rw [hA33]; exact hr33)
                              rw [← hy33, ← hA33, ← hc33] at hcut33
                              have HR240 := Aside0.mk hr33
                              have HC240 := Aside0.mk (show y237.length ≤ c33 from by rw [hy33, hc33]; exact Nat.sub_le_sub_right hroom33 _)
                              clear hr33 hC33 hroom33 hi033 hsz33 hc33
                              have KY33 := Aside0.mk hy33
                              have KA33 := Aside0.mk hA33
                              clear hy33 hA33
                              replace q33 := eq_true q33
                              go_wp2_with (first | ((with_reducible refine gate_callee (f := 9) rfl ?_); refine goesL_ (some 59) rfl rfl Try.func9 (by kernel_rfl) rfl #[.int .i64 a0, .slice A33 y237.length c33, .int .i64 a2] rfl (by (try simp only [List.map_toArray, List.map_cons, List.map_nil]); first | done | rfl | (simp only [List.length_drop, List.length_take]; rfl)) ?_; (with_reducible refine (splice_Back.calls kj13 a0 _ _ y237 a2 t241 t242 _ ?side1 ?side2 A22.out).mono ?_); (case side1 => repeat (first | exact (Kd.C_below HR240.out HB.out) | (with_reducible refine Kd.C_alloc ?_ _) | (with_reducible refine Kd.C_drewN ?_ _) | (with_reducible refine Kd.C_drew ?_))); (case side2 => exact HC240.out); rintro e w34 ⟨rfl, hb⟩; refine ⟨_, rfl, ?_⟩; have n0_ := Aside0.mk (below_step (by repeat (first | (with_reducible first | exact HB.out | apply below_alloc | apply pw_below_drewN | apply below_drew1) | exact HB.out)) hb); clear HB; have HB := n0_; clear n0_; (try clear hb); (try clear hb2); (try clear hk); (try clear hi)) | ((with_reducible refine gate_callee (f := 9) rfl ?_); refine goesL_ (some 65) rfl rfl Try.func9 (by kernel_rfl) rfl #[.int .i64 a0, .slice A1 l1.length c1, .int .i64 0] rfl (by (try simp only [List.map_toArray, List.map_cons, List.map_nil]); first | done | rfl | (simp only [List.length_drop, List.length_take]; rfl)) ?_; (with_reducible refine (splice_Back.calls kj13 a0 _ _ l1 0 t243 t244 _ ?side1 ?side2 A23.out).mono ?_); (case side1 => repeat (first | exact (Kd.C_below HR1.out HB.out) | (with_reducible refine Kd.C_alloc ?_ _) | (with_reducible refine Kd.C_drewN ?_ _) | (with_reducible refine Kd.C_drew ?_))); (case side2 => exact HC1.out); rintro e w35 ⟨rfl, hb⟩; refine ⟨_, rfl, ?_⟩; have n0_ := Aside0.mk (below_step (by repeat (first | (with_reducible first | exact HB.out | apply below_alloc | apply pw_below_drewN | apply below_drew1) | exact HB.out)) hb); clear HB; have HB := n0_; clear n0_; (try clear hb); (try clear hb2); (try clear hk); (try clear hi)) | ((with_reducible refine gate_callee (f := 9) rfl ?_); refine goesL_ (some 72) rfl rfl Try.func9 (by kernel_rfl) rfl #[.int .i64 a0, .slice A1 l1.length c1, .int .i64 a0] rfl (by (try simp only [List.map_toArray, List.map_cons, List.map_nil]); first | done | rfl | (simp only [List.length_drop, List.length_take]; rfl)) ?_; (with_reducible refine (splice_Back.calls kj13 a0 _ _ l1 a0 t245 t246 _ ?side1 ?side2 A24.out).mono ?_); (case side1 => repeat (first | exact (Kd.C_below HR1.out HB.out) | (with_reducible refine Kd.C_alloc ?_ _) | (with_reducible refine Kd.C_drewN ?_ _) | (with_reducible refine Kd.C_drew ?_))); (case side2 => exact HC1.out); rintro e w36 ⟨rfl, hb⟩; refine ⟨_, rfl, ?_⟩; have n0_ := Aside0.mk (below_step (by repeat (first | (with_reducible first | exact HB.out | apply below_alloc | apply pw_below_drewN | apply below_drew1) | exact HB.out)) hb); clear HB; have HB := n0_; clear n0_; (try clear hb); (try clear hb2); (try clear hk); (try clear hi)) | (go_at_call 8; (with_reducible refine (garmentlaw37_awake.calls kj13  t247 _ A32.out).mono ?_); rintro e w37 ⟨rfl, hb⟩; have n0_ := Aside0.mk (below_step (by repeat (first | (with_reducible first | exact HB.out | apply below_alloc | apply pw_below_drewN | apply below_drew1) | exact HB.out)) hb); clear HB; have HB := n0_; clear n0_; (try clear hb); (try clear hb2); (try clear hk); (try clear hi)))
                              go_ret
                              exact ⟨by first | rfl | (simp [errW_none, errW_some] <;> rfl) | (simp [*, errW_none, errW_some] <;> rfl), by repeat (first | (with_reducible first | exact HB.out | apply below_alloc | apply pw_below_drewN | apply below_drew1) | exact HB.out)⟩
                            · rw [if_neg c31] at H
                              exact absurd H (by simp)
                          · rw [if_neg c30] at H
                            exact absurd H (by simp)
                        · rw [if_neg c29] at H
                          exact absurd H (by simp)
                      · rw [if_neg c28] at H
                        exact absurd H (by simp)
                    · rw [if_neg c27] at H
                      exact absurd H (by simp)
                  · rw [if_neg c26] at H
                    exact absurd H (by simp)
                · rw [if_neg c25] at H
                  exact absurd H (by simp)
              · rw [if_neg c21] at H
                exact absurd H (by simp)

/-- The statement that is left: numbers and lists alone. -/
def garmentlaw37_SpliceRises.Pure : Prop := ∀ (x0 : Int) (x1 : List (List (S47))) (x2 : Int) (x3 : Int), (Lit.int .i64 x0).wf = true → (x1.length ≤ maxLen ∧ ∀ y0 ∈ x1, (y0.length ≤ maxLen ∧ ∀ y1 ∈ y0, ((Lit.int .i64 y1.f0).wf = true ∧ (Lit.int .i64 y1.f1).wf = true))) → (Lit.int .i64 x2).wf = true → (Lit.int .i64 x3).wf = true → ∃ k, garmentlaw37_SpliceRises.f k x0 x1 x2 x3 = some true

end Go.Proofs.Ytakefijfdgpdoaa.PSpliceRises
