/- Written by a program of this session out of the translation. -/
import Derived.Test.YtccinkbneimmhaaPPolygonCornersx0
import Derived.Test.YtccinkbneimmhaaPPolygonCornersx1
import Derived.Test.YtccinkbneimmhaaPPolygonCornersx3
import Derived.Test.YtccinkbneimmhaaPPolygonCornersx5
namespace Go.Proofs.Ytccinkbneimmhaa.PPolygonCorners
open Go.RowKit Go.Proofs.YtccinkbneimmhaaW.PrintWords Go.Proofs.YtccinkbneimmhaaW.PrintLast Go.Proofs.YtccinkbneimmhaaW.PrintMore
attribute [local go_sem] max2_int min2_int max_two min_two max_three min_three max_four min_four   -- for this text's walks alone
set_option linter.unusedVariables false
set_option linter.unusedSimpArgs false
attribute [local go_sem high] eqA30
/-! ### polygon_simple: function 45 -/
mutual
def polygon_simple.l0 : Nat → List (S57) → List (S57) → Int → Int → Option (Bool)
 | 0, _, _, _, _ => none
 | k + 1, x3, x10, x11, x12 => if x12 < x11 then (if 0 ≤ x12 then (if x12 < (x10.length : Int) then (if (((rd_T57 x10 x12).f0.f0) == ((rd_T57 x10 x12).f1.f0) && (((rd_T57 x10 x12).f0.f1) == ((rd_T57 x10 x12).f1.f1))) = true then (some false) else (if (x3.length : Int) = 0 then (none) else (if 0 ≤ (Int.tmod (wrap64 (x12 + 1)) (x3.length : Int)) then (if (Int.tmod (wrap64 (x12 + 1)) (x3.length : Int)) < (x3.length : Int) then ((polygon_side_holds.f ((rd_T57 x10 x12).f0.f0) ((rd_T57 x10 x12).f0.f1) ((rd_T57 x10 x12).f1.f0) ((rd_T57 x10 x12).f1.f1) ((rd_T57 x3 (Int.tmod (wrap64 (x12 + 1)) (x3.length : Int))).f1.f0) ((rd_T57 x3 (Int.tmod (wrap64 (x12 + 1)) (x3.length : Int))).f1.f1)).bind fun t138 => (if t138 = true then (polygon_simple.j1 k x3 x12 x10 x11 x12 true ((rd_T57 x10 x12).f0.f0) ((rd_T57 x10 x12).f0.f1) ((rd_T57 x10 x12).f1.f0) ((rd_T57 x10 x12).f1.f1)) else ((polygon_side_holds.f ((rd_T57 x3 (Int.tmod (wrap64 (x12 + 1)) (x3.length : Int))).f0.f0) ((rd_T57 x3 (Int.tmod (wrap64 (x12 + 1)) (x3.length : Int))).f0.f1) ((rd_T57 x3 (Int.tmod (wrap64 (x12 + 1)) (x3.length : Int))).f1.f0) ((rd_T57 x3 (Int.tmod (wrap64 (x12 + 1)) (x3.length : Int))).f1.f1) ((rd_T57 x10 x12).f0.f0) ((rd_T57 x10 x12).f0.f1)).bind fun t139 => (polygon_simple.j1 k x3 x12 x10 x11 x12 t139 ((rd_T57 x10 x12).f0.f0) ((rd_T57 x10 x12).f0.f1) ((rd_T57 x10 x12).f1.f0) ((rd_T57 x10 x12).f1.f1))))) else (none)) else (none)))) else (none)) else (none)) else (some true)
def polygon_simple.j1 : Nat → List (S57) → Int → List (S57) → Int → Int → Bool → Int → Int → Int → Int → Option (Bool)
 | 0, _, _, _, _, _, _, _, _, _, _ => none
 | k + 1, x3, x4, x10, x11, x12, x39, x136000, x136001, x136002, x136003 => if x39 = true then (some false) else (polygon_simple.l1 k x3 x4 (wrap64 (x4 + 2)) x10 x11 x12 x136000 x136001 x136002 x136003)
def polygon_simple.l1 : Nat → List (S57) → Int → Int → List (S57) → Int → Int → Int → Int → Int → Int → Option (Bool)
 | 0, _, _, _, _, _, _, _, _, _, _ => none
 | k + 1, x3, x4, x7, x10, x11, x12, x136000, x136001, x136002, x136003 => if x7 < (x3.length : Int) then (if x4 = 0 then (polygon_simple.j3 k x3 x4 x7 x10 x11 x12 (x7 == (wrap64 ((x3.length : Int) - 1))) x136000 x136001 x136002 x136003) else (polygon_simple.j3 k x3 x4 x7 x10 x11 x12 false x136000 x136001 x136002 x136003)) else (polygon_simple.l0 k x3 x10 x11 (wrap64 (x12 + 1)))
def polygon_simple.j3 : Nat → List (S57) → Int → Int → List (S57) → Int → Int → Bool → Int → Int → Int → Int → Option (Bool)
 | 0, _, _, _, _, _, _, _, _, _, _, _ => none
 | k + 1, x3, x4, x7, x10, x11, x12, x56, x136000, x136001, x136002, x136003 => if x56 = true then (polygon_simple.l1 k x3 x4 (wrap64 (x7 + 1)) x10 x11 x12 x136000 x136001 x136002 x136003) else (if 0 ≤ x7 then (if x7 < (x3.length : Int) then ((polygon_side_meets.f x136000 x136001 x136002 x136003 ((rd_T57 x3 x7).f0.f0) ((rd_T57 x3 x7).f0.f1) ((rd_T57 x3 x7).f1.f0) ((rd_T57 x3 x7).f1.f1)).bind fun t141 => (if t141 = true then (some false) else (polygon_simple.l1 k x3 x4 (wrap64 (x7 + 1)) x10 x11 x12 x136000 x136001 x136002 x136003))) else (none)) else (none))
end
def polygon_simple.f (k : Nat) (l0 : List (S30)) : Option (Bool) := (polygon_sides.f k l0).bind fun t131 => (polygon_simple.l0 k t131 t131 (t131.length : Int) 0)
theorem polygon_simple.mono_l : ∀ k, (∀ y0 y1 y2 y3, LeO (polygon_simple.l0 k y0 y1 y2 y3) (polygon_simple.l0 (k + 1) y0 y1 y2 y3)) ∧ (∀ y0 y1 y2 y3 y4 y5 y6 y7 y8 y9, LeO (polygon_simple.j1 k y0 y1 y2 y3 y4 y5 y6 y7 y8 y9) (polygon_simple.j1 (k + 1) y0 y1 y2 y3 y4 y5 y6 y7 y8 y9)) ∧ (∀ y0 y1 y2 y3 y4 y5 y6 y7 y8 y9, LeO (polygon_simple.l1 k y0 y1 y2 y3 y4 y5 y6 y7 y8 y9) (polygon_simple.l1 (k + 1) y0 y1 y2 y3 y4 y5 y6 y7 y8 y9)) ∧ (∀ y0 y1 y2 y3 y4 y5 y6 y7 y8 y9 y10, LeO (polygon_simple.j3 k y0 y1 y2 y3 y4 y5 y6 y7 y8 y9 y10) (polygon_simple.j3 (k + 1) y0 y1 y2 y3 y4 y5 y6 y7 y8 y9 y10))
 | 0 => ⟨fun _ _ _ _ r h => by simp [polygon_simple.l0] at h, fun _ _ _ _ _ _ _ _ _ _ r h => by simp [polygon_simple.j1] at h, fun _ _ _ _ _ _ _ _ _ _ r h => by simp [polygon_simple.l1] at h, fun _ _ _ _ _ _ _ _ _ _ _ r h => by simp [polygon_simple.j3] at h⟩
 | k + 1 => by
  obtain ⟨ih0, ih1, ih2, ih3⟩ := polygon_simple.mono_l k
  refine ⟨?_, ?_, ?_, ?_⟩
  ·intro y0 y1 y2 y3
   unfold polygon_simple.l0
   repeat' first
   | (with_reducible exact ih0 _ _ _ _)
   | (with_reducible exact ih1 _ _ _ _ _ _ _ _ _ _)
   | (with_reducible exact ih2 _ _ _ _ _ _ _ _ _ _)
   | (with_reducible exact ih3 _ _ _ _ _ _ _ _ _ _ _)
   | (with_reducible exact polygon_sides.mono _ _)
   | (with_reducible exact LeO.refl _)
   | (with_reducible exact LeO.none _)
   | (with_reducible refine LeO.ite ?_ ?_)
   | (with_reducible refine LeO.bind ?_ (fun _ => ?_))
   | exact ih0 _ _ _ _
   | exact ih1 _ _ _ _ _ _ _ _ _ _
   | exact ih2 _ _ _ _ _ _ _ _ _ _
   | exact ih3 _ _ _ _ _ _ _ _ _ _ _
   | exact polygon_sides.mono _ _
   | exact LeO.none _
   | refine LeO.ite ?_ ?_
   | refine LeO.bind ?_ (fun _ => ?_)
  ·intro y0 y1 y2 y3 y4 y5 y6 y7 y8 y9
   unfold polygon_simple.j1
   repeat' first
   | (with_reducible exact ih0 _ _ _ _)
   | (with_reducible exact ih1 _ _ _ _ _ _ _ _ _ _)
   | (with_reducible exact ih2 _ _ _ _ _ _ _ _ _ _)
   | (with_reducible exact ih3 _ _ _ _ _ _ _ _ _ _ _)
   | (with_reducible exact polygon_sides.mono _ _)
   | (with_reducible exact LeO.refl _)
   | (with_reducible exact LeO.none _)
   | (with_reducible refine LeO.ite ?_ ?_)
   | (with_reducible refine LeO.bind ?_ (fun _ => ?_))
   | exact ih0 _ _ _ _
   | exact ih1 _ _ _ _ _ _ _ _ _ _
   | exact ih2 _ _ _ _ _ _ _ _ _ _
   | exact ih3 _ _ _ _ _ _ _ _ _ _ _
   | exact polygon_sides.mono _ _
   | exact LeO.none _
   | refine LeO.ite ?_ ?_
   | refine LeO.bind ?_ (fun _ => ?_)
  ·intro y0 y1 y2 y3 y4 y5 y6 y7 y8 y9
   unfold polygon_simple.l1
   repeat' first
   | (with_reducible exact ih0 _ _ _ _)
   | (with_reducible exact ih1 _ _ _ _ _ _ _ _ _ _)
   | (with_reducible exact ih2 _ _ _ _ _ _ _ _ _ _)
   | (with_reducible exact ih3 _ _ _ _ _ _ _ _ _ _ _)
   | (with_reducible exact polygon_sides.mono _ _)
   | (with_reducible exact LeO.refl _)
   | (with_reducible exact LeO.none _)
   | (with_reducible refine LeO.ite ?_ ?_)
   | (with_reducible refine LeO.bind ?_ (fun _ => ?_))
   | exact ih0 _ _ _ _
   | exact ih1 _ _ _ _ _ _ _ _ _ _
   | exact ih2 _ _ _ _ _ _ _ _ _ _
   | exact ih3 _ _ _ _ _ _ _ _ _ _ _
   | exact polygon_sides.mono _ _
   | exact LeO.none _
   | refine LeO.ite ?_ ?_
   | refine LeO.bind ?_ (fun _ => ?_)
  ·intro y0 y1 y2 y3 y4 y5 y6 y7 y8 y9 y10
   unfold polygon_simple.j3
   repeat' first
   | (with_reducible exact ih0 _ _ _ _)
   | (with_reducible exact ih1 _ _ _ _ _ _ _ _ _ _)
   | (with_reducible exact ih2 _ _ _ _ _ _ _ _ _ _)
   | (with_reducible exact ih3 _ _ _ _ _ _ _ _ _ _ _)
   | (with_reducible exact polygon_sides.mono _ _)
   | (with_reducible exact LeO.refl _)
   | (with_reducible exact LeO.none _)
   | (with_reducible refine LeO.ite ?_ ?_)
   | (with_reducible refine LeO.bind ?_ (fun _ => ?_))
   | exact ih0 _ _ _ _
   | exact ih1 _ _ _ _ _ _ _ _ _ _
   | exact ih2 _ _ _ _ _ _ _ _ _ _
   | exact ih3 _ _ _ _ _ _ _ _ _ _ _
   | exact polygon_sides.mono _ _
   | exact LeO.none _
   | refine LeO.ite ?_ ?_
   | refine LeO.bind ?_ (fun _ => ?_)
theorem polygon_simple.mono : ∀ a0 k, LeO (polygon_simple.f k a0) (polygon_simple.f (k + 1) a0) := by
 intro a0 k
 obtain ⟨ih0, ih1, ih2, ih3⟩ := polygon_simple.mono_l k
 unfold polygon_simple.f
 repeat' first
   | (with_reducible exact ih0 _ _ _ _)
   | (with_reducible exact ih1 _ _ _ _ _ _ _ _ _ _)
   | (with_reducible exact ih2 _ _ _ _ _ _ _ _ _ _)
   | (with_reducible exact ih3 _ _ _ _ _ _ _ _ _ _ _)
   | (with_reducible exact polygon_sides.mono _ _)
   | (with_reducible exact LeO.refl _)
   | (with_reducible exact LeO.none _)
   | (with_reducible refine LeO.ite ?_ ?_)
   | (with_reducible refine LeO.bind ?_ (fun _ => ?_))
   | exact ih0 _ _ _ _
   | exact ih1 _ _ _ _ _ _ _ _ _ _
   | exact ih2 _ _ _ _ _ _ _ _ _ _
   | exact ih3 _ _ _ _ _ _ _ _ _ _ _
   | exact polygon_sides.mono _ _
   | exact LeO.none _
   | refine LeO.ite ?_ ?_
   | refine LeO.bind ?_ (fun _ => ?_)
set_option maxHeartbeats 8000000 in
set_option maxRecDepth 100000 in
theorem polygon_simple.calls (k : Nat) (A0 : Option Addr) (c0 : Nat) (l0 : List (S30)) (r : Bool) (w : World) (hr0 : Kd.C k30 w A0 l0.length l0) (hc0 : l0.length ≤ c0) (h : polygon_simple.f k l0 = some r) :
  Calls Try.prog 45 #[.slice A0 l0.length c0] w fun e w' => e = .returned (.bool r) ∧ Below w.heap.size w w' := by
 have hu57 := Try.underlying57
 have hu30 := Try.underlying30
 have HR0 := Aside0.mk hr0
 have HC0 := Aside0.mk hc0
 clear hr0 hc0
 have HB := Aside0.mk (Below.refl w.heap.size w)
 have H : ((polygon_sides.f k l0).bind fun t131 => (polygon_simple.l0 k t131 t131 (t131.length : Int) 0)) = some r := h
 clear h
 replace H := Option.bind_eq_some_iff.mp H
 obtain ⟨t131, A20, H⟩ := H
 replace H : (polygon_simple.l0 k t131 t131 (t131.length : Int) 0) = some r := H
 have A2 := Aside0.mk A20
 clear A20
 have H' := Aside0.mk H
 clear H
 go_enter Try.func45, Try.ntmps45
 go_wp2_with (first | ((with_reducible refine gate_callee (f := 42) rfl ?_); refine goesL_ (some 9) rfl rfl Try.func42 (by kernel_rfl) rfl #[.slice A0 l0.length c0] rfl (by (try simp only [List.map_toArray, List.map_cons, List.map_nil]); first | done | rfl | (simp only [List.length_drop, List.length_take]; rfl)) ?_; (with_reducible refine (polygon_sides.calls k _ _ l0 t131 _ ?side1 ?side2 A2.out).mono ?_); (case side1 => repeat (first | exact HR0.out | (with_reducible refine Kd.C_alloc ?_ _) | (with_reducible refine Kd.C_drewN ?_ _) | (with_reducible refine Kd.C_drew ?_))); (case side2 => exact HC0.out); rintro e w3 ⟨v132, rfl, ho0, hb⟩; refine ⟨_, rfl, ?_⟩; have n0_ := Aside0.mk (Kd.R_lower ho0 (below_size (by repeat (first | (with_reducible first | exact HB.out | apply below_alloc | apply pw_below_drewN | apply below_drew1) | exact HB.out)))); have n1_ := Aside0.mk (below_step (by repeat (first | (with_reducible first | exact HB.out | apply below_alloc | apply pw_below_drewN | apply below_drew1) | exact HB.out)) hb); clear HB; have HO133 := n0_; have HB := n1_; clear n0_ n1_; (try clear hb); (try clear hb2); (try clear hk); (try clear hi); (try clear ho0); obtain ⟨Ao4, co4, eo4⟩ := Kd.R_slice HO133.out; subst eo4))
 go_loopg [12] k (fun kq v12 w' => ∃ (x12_1 : Int), v12 = .int .i64 x12_1 ∧ Aside0 (polygon_simple.l0 kq t131 t131 (t131.length : Int) x12_1 = some r) ∧ Aside0 (kq ≤ k) ∧ Aside0 (Kd.R k57 57 w' w.heap.size (fun _ => True) (.slice Ao4 t131.length co4) t131) ∧ Aside0 (Kd.R k57 57 w' w.heap.size (fun _ => True) (.slice Ao4 t131.length co4) t131) ∧ Aside0 (Below w.heap.size w w'))
 case atStart => exact ⟨(0), (by first | rfl | (simp; done) | (simp [*]; done)), H', ⟨Nat.le_refl _⟩, ⟨by (with_reducible repeat (first | apply Kd.R_alloc | apply Kd.R_drewN | apply Kd.R_drew)); exact HO133.out⟩, ⟨by (with_reducible repeat (first | apply Kd.R_alloc | apply Kd.R_drewN | apply Kd.R_drew)); exact HO133.out⟩, ⟨by repeat (first | (with_reducible first | exact HB.out | apply below_alloc | apply pw_below_drewN | apply below_drew1) | exact HB.out)⟩⟩
 case round =>
  clear H'
  try clear p2
  try clear c4
  obtain ⟨x12_1, rfl, HA, HK1, HO_3, HO_10, HB⟩ := hrel
  cases gk with
  | zero => exact absurd HA.out (by simp [polygon_simple.l0])
  | succ k1 =>
   have H := HA.out
   clear HA
   simp only [polygon_simple.l0] at H
   by_cases c5 : x12_1 < (t131.length : Int)
   ·rw [if_pos c5] at H
    have c5b0 : decide (x12_1 < (t131.length : Int)) = true := decide_eq_true c5
    clear c5
    by_cases c6 : 0 ≤ x12_1
    ·rw [if_pos c6] at H
     have c6b0 : decide (0 ≤ x12_1) = true := decide_eq_true c6
     clear c6
     by_cases c7 : x12_1 < (t131.length : Int)
     ·rw [if_pos c7] at H
      have c7b0 : decide (x12_1 < (t131.length : Int)) = true := decide_eq_true c7
      clear c7
      by_cases c8 : (((rd_T57 t131 x12_1).f0.f0) == ((rd_T57 t131 x12_1).f1.f0) && (((rd_T57 t131 x12_1).f0.f1) == ((rd_T57 t131 x12_1).f1.f1))) = true
      ·rw [if_pos c8] at H
       have c8b0 : (((rd_T57 t131 x12_1).f0.f0) == ((rd_T57 t131 x12_1).f1.f0) && (((rd_T57 t131 x12_1).f0.f1) == ((rd_T57 t131 x12_1).f1.f1))) = true := c8
       (try (have c8b1 : decide (((rd_T57 t131 x12_1).f0.f0) = ((rd_T57 t131 x12_1).f1.f0) && (((rd_T57 t131 x12_1).f0.f1) == ((rd_T57 t131 x12_1).f1.f1))) = true := by simpa using c8))
       (try (have c8b2 : (((rd_T57 t131 x12_1).f0.f0) == ((rd_T57 t131 x12_1).f1.f0) && (((rd_T57 t131 x12_1).f0.f1) == ((rd_T57 t131 x12_1).f1.f1))) = true := by simpa using c8))
       clear c8
       obtain rfl := Option.some.inj H
       have p134 : 0 ≤ (x12_1 : Int) := of_decide_eq_true (by first | (with_reducible assumption) | assumption)
       have q134 : x12_1 < (t131.length : Int) := of_decide_eq_true (by first | (with_reducible assumption) | assumption)
       obtain ⟨ad134, e134, hx134_0, hx134_1, hx134_2, hx134_3⟩ := at_T57 (Kd.R_reads' HO_10.out).2.2 x12_1 p134 q134
       cases e134
       replace p134 := eq_true p134
       replace q134 := eq_true q134
       go_wp2_with (first | ((with_reducible refine gate_dst (N := 5) rfl ?_); (try (refine gate_guard (by rfl) ?_; dsimp only)); refine box_event ?hg (N := 5) ?hd (cs := #[.int .i64 0, .int .i64 0, .int .i64 0, .int .i64 0]) (t := 57) ?hr ?_; (case hd => rfl); (case hg => rfl); (case hr => first | (go_simp; done) | (go_simp; rfl)); intro gb135 hg w9 hbox hb; have n0_ := Aside0.mk (Kd.R_below (Kd.R_elderB (by (with_reducible repeat (first | apply Kd.R_alloc | apply Kd.R_drewN | apply Kd.R_drew)); exact HO_3.out) gb135 (Nat.le_of_eq hg.symm)) hb); have n1_ := Aside0.mk (Kd.R_below (Kd.R_elderB (by (with_reducible repeat (first | apply Kd.R_alloc | apply Kd.R_drewN | apply Kd.R_drew)); exact HO_10.out) gb135 (Nat.le_of_eq hg.symm)) hb); have n2_ := Aside0.mk (below_step (by repeat (first | (with_reducible first | exact HB.out | apply below_alloc | apply pw_below_drewN | apply below_drew1) | exact HB.out)) hb); have n3_ := Aside0.mk (hbox); have n4_ := Aside0.mk ((by rw [hg]; exact (below_size (by repeat (first | (with_reducible first | exact HB.out | apply below_alloc | apply pw_below_drewN | apply below_drew1) | exact HB.out))) : w.heap.size ≤ gb135)); have n5_ := Aside0.mk ((by rw [hg]; exact (below_size (by repeat (first | (with_reducible first | exact HB.out | apply below_alloc | apply pw_below_drewN | apply below_drew1) | exact HB.out))) : w.heap.size ≤ gb135)); clear HO_3; clear HO_10; clear HB; have HO_3 := n0_; have HO_10 := n1_; have HB := n2_; have BK135 := n3_; have GW135 := n4_; have GE135 := n5_; clear n0_ n1_ n2_ n3_ n4_ n5_; clear hb hbox hg; have hcz10_0 : w9.cell? ⟨gb135, 0, none⟩ = some (.int .i64 0) := (blk_cell BK135.out 0).trans rfl; have hcz10_1 : w9.cell? ⟨gb135, 1, none⟩ = some (.int .i64 0) := (blk_cell BK135.out 1).trans rfl; have hcz10_2 : w9.cell? ⟨gb135, 2, none⟩ = some (.int .i64 0) := (blk_cell BK135.out 2).trans rfl; have hcz10_3 : w9.cell? ⟨gb135, 3, none⟩ = some (.int .i64 0) := (blk_cell BK135.out 3).trans rfl; have hfz10_0 := blk_frozen BK135.out 0; have hfz10_1 := blk_frozen BK135.out 1; have hfz10_2 := blk_frozen BK135.out 2; have hfz10_3 := blk_frozen BK135.out 3))
       go_ret
       exact ⟨by first | rfl | (simp [errW_none, errW_some] <;> rfl) | (simp [*, errW_none, errW_some] <;> rfl), by repeat (first | (with_reducible first | exact HB.out | apply below_alloc | apply pw_below_drewN | apply below_drew1 | refine below_set ?_ GE135.out) | exact HB.out)⟩
      ·rw [if_neg c8] at H
       have c8b0 : (((rd_T57 t131 x12_1).f0.f0) == ((rd_T57 t131 x12_1).f1.f0) && (((rd_T57 t131 x12_1).f0.f1) == ((rd_T57 t131 x12_1).f1.f1))) = false := by simpa using c8
       (try (have c8b1 : decide (((rd_T57 t131 x12_1).f0.f0) = ((rd_T57 t131 x12_1).f1.f0) && (((rd_T57 t131 x12_1).f0.f1) == ((rd_T57 t131 x12_1).f1.f1))) = false := by simpa using c8))
       (try (have c8b2 : (((rd_T57 t131 x12_1).f0.f0) == ((rd_T57 t131 x12_1).f1.f0) && (((rd_T57 t131 x12_1).f0.f1) == ((rd_T57 t131 x12_1).f1.f1))) = false := by simpa using c8))
       (try (have c8b3 : ¬ (((rd_T57 t131 x12_1).f0.f0) = ((rd_T57 t131 x12_1).f1.f0) && (((rd_T57 t131 x12_1).f0.f1) == ((rd_T57 t131 x12_1).f1.f1))) := by simpa using c8))
       clear c8
       by_cases c11 : (t131.length : Int) = 0
       ·rw [if_pos c11] at H
        exact absurd H (by simp)
       ·rw [if_neg c11] at H
        have c11b0 : ((t131.length : Int) == 0) = false := beq_eq_false_iff_ne.mpr c11
        have c11b1 : ((t131.length : Int) != 0) = true := bne_iff_ne.mpr c11
        have c11b2 : ¬ (t131 = []) := fun h_ => c11 (by rw [h_]; rfl)
        obtain ⟨ji12, hji12⟩ : ∃ j_ : Int, (Int.tmod (wrap64 (x12_1 + 1)) (t131.length : Int)) = j_ := ⟨_, rfl⟩
        replace H : (if 0 ≤ (ji12) then (if (ji12) < (t131.length : Int) then ((polygon_side_holds.f ((rd_T57 t131 x12_1).f0.f0) ((rd_T57 t131 x12_1).f0.f1) ((rd_T57 t131 x12_1).f1.f0) ((rd_T57 t131 x12_1).f1.f1) ((rd_T57 t131 (ji12)).f1.f0) ((rd_T57 t131 (ji12)).f1.f1)).bind fun t138 => (if t138 = true then (polygon_simple.j1 k1 t131 x12_1 t131 (t131.length : Int) x12_1 true ((rd_T57 t131 x12_1).f0.f0) ((rd_T57 t131 x12_1).f0.f1) ((rd_T57 t131 x12_1).f1.f0) ((rd_T57 t131 x12_1).f1.f1)) else ((polygon_side_holds.f ((rd_T57 t131 (ji12)).f0.f0) ((rd_T57 t131 (ji12)).f0.f1) ((rd_T57 t131 (ji12)).f1.f0) ((rd_T57 t131 (ji12)).f1.f1) ((rd_T57 t131 x12_1).f0.f0) ((rd_T57 t131 x12_1).f0.f1)).bind fun t139 => (polygon_simple.j1 k1 t131 x12_1 t131 (t131.length : Int) x12_1 t139 ((rd_T57 t131 x12_1).f0.f0) ((rd_T57 t131 x12_1).f0.f1) ((rd_T57 t131 x12_1).f1.f0) ((rd_T57 t131 x12_1).f1.f1))))) else (none)) else (none)) = some r := by first | (rw [hji12] at H; exact H) | (simp only [hji12] at H ⊢; exact H)
        by_cases c13 : 0 ≤ (ji12)
        ·rw [if_pos c13] at H
         have c13b0 : decide (0 ≤ (ji12)) = true := decide_eq_true c13
         clear c13
         by_cases c14 : (ji12) < (t131.length : Int)
         ·rw [if_pos c14] at H
          have c14b0 : decide ((ji12) < (t131.length : Int)) = true := decide_eq_true c14
          clear c14
          have HC15 := Aside0.mk H
          clear H
          have p134 : 0 ≤ (x12_1 : Int) := of_decide_eq_true (by first | (with_reducible assumption) | assumption)
          have q134 : x12_1 < (t131.length : Int) := of_decide_eq_true (by first | (with_reducible assumption) | assumption)
          obtain ⟨ad134, e134, hx134_0, hx134_1, hx134_2, hx134_3⟩ := at_T57 (Kd.R_reads' HO_10.out).2.2 x12_1 p134 q134
          cases e134
          replace p134 := eq_true p134
          replace q134 := eq_true q134
          go_upto_region 8 with (first | ((with_reducible refine gate_dst (N := 5) rfl ?_); (try (refine gate_guard (by rfl) ?_; dsimp only)); refine box_event ?hg (N := 5) ?hd (cs := #[.int .i64 0, .int .i64 0, .int .i64 0, .int .i64 0]) (t := 57) ?hr ?_; (case hd => rfl); (case hg => rfl); (case hr => first | (go_simp; done) | (go_simp; rfl)); intro gb135 hg w16 hbox hb; have n0_ := Aside0.mk (Kd.R_below (Kd.R_elderB (by (with_reducible repeat (first | apply Kd.R_alloc | apply Kd.R_drewN | apply Kd.R_drew)); exact HO_3.out) gb135 (Nat.le_of_eq hg.symm)) hb); have n1_ := Aside0.mk (Kd.R_below (Kd.R_elderB (by (with_reducible repeat (first | apply Kd.R_alloc | apply Kd.R_drewN | apply Kd.R_drew)); exact HO_10.out) gb135 (Nat.le_of_eq hg.symm)) hb); have n2_ := Aside0.mk (below_step (by repeat (first | (with_reducible first | exact HB.out | apply below_alloc | apply pw_below_drewN | apply below_drew1) | exact HB.out)) hb); have n3_ := Aside0.mk (hbox); have n4_ := Aside0.mk ((by rw [hg]; exact (below_size (by repeat (first | (with_reducible first | exact HB.out | apply below_alloc | apply pw_below_drewN | apply below_drew1) | exact HB.out))) : w.heap.size ≤ gb135)); have n5_ := Aside0.mk ((by rw [hg]; exact (below_size (by repeat (first | (with_reducible first | exact HB.out | apply below_alloc | apply pw_below_drewN | apply below_drew1) | exact HB.out))) : w.heap.size ≤ gb135)); clear HO_3; clear HO_10; clear HB; have HO_3 := n0_; have HO_10 := n1_; have HB := n2_; have BK135 := n3_; have GW135 := n4_; have GE135 := n5_; clear n0_ n1_ n2_ n3_ n4_ n5_; clear hb hbox hg; have hcz17_0 : w16.cell? ⟨gb135, 0, none⟩ = some (.int .i64 0) := (blk_cell BK135.out 0).trans rfl; have hcz17_1 : w16.cell? ⟨gb135, 1, none⟩ = some (.int .i64 0) := (blk_cell BK135.out 1).trans rfl; have hcz17_2 : w16.cell? ⟨gb135, 2, none⟩ = some (.int .i64 0) := (blk_cell BK135.out 2).trans rfl; have hcz17_3 : w16.cell? ⟨gb135, 3, none⟩ = some (.int .i64 0) := (blk_cell BK135.out 3).trans rfl; have hfz17_0 := blk_frozen BK135.out 0; have hfz17_1 := blk_frozen BK135.out 1; have hfz17_2 := blk_frozen BK135.out 2; have hfz17_3 := blk_frozen BK135.out 3; have p136 : 0 ≤ ((ji12) : Int) := of_decide_eq_true (by first | (with_reducible assumption) | assumption); have q136 : (ji12) < (t131.length : Int) := of_decide_eq_true (by first | (with_reducible assumption) | assumption); obtain ⟨ad136, e136, hx136_0, hx136_1, hx136_2, hx136_3⟩ := at_T57 (Kd.R_reads' HO_3.out).2.2 (ji12) p136 q136; obtain rfl : ad134 = ad136 := (by injection e136); have hn136_0 : ad134.block ≠ gb135 := Kd.own_blk (Kd.R_away HO_3.out (fun _ hk => hk.2)); have hn136_1 : ad134.block ≠ gb135 := Kd.own_blk (Kd.R_away HO_3.out (fun _ hk => hk.2)); have hn136_2 : ad134.block ≠ gb135 := Kd.own_blk (Kd.R_away HO_3.out (fun _ hk => hk.2)); have hn136_3 : ad134.block ≠ gb135 := Kd.own_blk (Kd.R_away HO_3.out (fun _ hk => hk.2)); replace hx136_0 := (cell_far (p := ⟨gb135, 0, none⟩) (by first | (rw [add_block]; exact hn136_0) | (show (Addr.add _ _).block ≠ _; rw [add_block]; exact hn136_0) | exact hn136_0) (.int .i64 ((rd_T57 t131 x12_1).f0.f0))).trans hx136_0; replace hx136_1 := (cell_far (p := ⟨gb135, 0, none⟩) (by first | (rw [add_block]; exact hn136_0) | (show (Addr.add _ _).block ≠ _; rw [add_block]; exact hn136_0) | exact hn136_0) (.int .i64 ((rd_T57 t131 x12_1).f0.f0))).trans hx136_1; replace hx136_2 := (cell_far (p := ⟨gb135, 0, none⟩) (by first | (rw [add_block]; exact hn136_0) | (show (Addr.add _ _).block ≠ _; rw [add_block]; exact hn136_0) | exact hn136_0) (.int .i64 ((rd_T57 t131 x12_1).f0.f0))).trans hx136_2; replace hx136_3 := (cell_far (p := ⟨gb135, 0, none⟩) (by first | (rw [add_block]; exact hn136_0) | (show (Addr.add _ _).block ≠ _; rw [add_block]; exact hn136_0) | exact hn136_0) (.int .i64 ((rd_T57 t131 x12_1).f0.f0))).trans hx136_3; replace hx136_0 := (cell_far (p := ⟨gb135, 1, none⟩) (by first | (rw [add_block]; exact hn136_1) | (show (Addr.add _ _).block ≠ _; rw [add_block]; exact hn136_1) | exact hn136_1) (.int .i64 ((rd_T57 t131 x12_1).f0.f1))).trans hx136_0; replace hx136_1 := (cell_far (p := ⟨gb135, 1, none⟩) (by first | (rw [add_block]; exact hn136_1) | (show (Addr.add _ _).block ≠ _; rw [add_block]; exact hn136_1) | exact hn136_1) (.int .i64 ((rd_T57 t131 x12_1).f0.f1))).trans hx136_1; replace hx136_2 := (cell_far (p := ⟨gb135, 1, none⟩) (by first | (rw [add_block]; exact hn136_1) | (show (Addr.add _ _).block ≠ _; rw [add_block]; exact hn136_1) | exact hn136_1) (.int .i64 ((rd_T57 t131 x12_1).f0.f1))).trans hx136_2; replace hx136_3 := (cell_far (p := ⟨gb135, 1, none⟩) (by first | (rw [add_block]; exact hn136_1) | (show (Addr.add _ _).block ≠ _; rw [add_block]; exact hn136_1) | exact hn136_1) (.int .i64 ((rd_T57 t131 x12_1).f0.f1))).trans hx136_3; replace hx136_0 := (cell_far (p := ⟨gb135, 2, none⟩) (by first | (rw [add_block]; exact hn136_2) | (show (Addr.add _ _).block ≠ _; rw [add_block]; exact hn136_2) | exact hn136_2) (.int .i64 ((rd_T57 t131 x12_1).f1.f0))).trans hx136_0; replace hx136_1 := (cell_far (p := ⟨gb135, 2, none⟩) (by first | (rw [add_block]; exact hn136_2) | (show (Addr.add _ _).block ≠ _; rw [add_block]; exact hn136_2) | exact hn136_2) (.int .i64 ((rd_T57 t131 x12_1).f1.f0))).trans hx136_1; replace hx136_2 := (cell_far (p := ⟨gb135, 2, none⟩) (by first | (rw [add_block]; exact hn136_2) | (show (Addr.add _ _).block ≠ _; rw [add_block]; exact hn136_2) | exact hn136_2) (.int .i64 ((rd_T57 t131 x12_1).f1.f0))).trans hx136_2; replace hx136_3 := (cell_far (p := ⟨gb135, 2, none⟩) (by first | (rw [add_block]; exact hn136_2) | (show (Addr.add _ _).block ≠ _; rw [add_block]; exact hn136_2) | exact hn136_2) (.int .i64 ((rd_T57 t131 x12_1).f1.f0))).trans hx136_3; replace hx136_0 := (cell_far (p := ⟨gb135, 3, none⟩) (by first | (rw [add_block]; exact hn136_3) | (show (Addr.add _ _).block ≠ _; rw [add_block]; exact hn136_3) | exact hn136_3) (.int .i64 ((rd_T57 t131 x12_1).f1.f1))).trans hx136_0; replace hx136_1 := (cell_far (p := ⟨gb135, 3, none⟩) (by first | (rw [add_block]; exact hn136_3) | (show (Addr.add _ _).block ≠ _; rw [add_block]; exact hn136_3) | exact hn136_3) (.int .i64 ((rd_T57 t131 x12_1).f1.f1))).trans hx136_1; replace hx136_2 := (cell_far (p := ⟨gb135, 3, none⟩) (by first | (rw [add_block]; exact hn136_3) | (show (Addr.add _ _).block ≠ _; rw [add_block]; exact hn136_3) | exact hn136_3) (.int .i64 ((rd_T57 t131 x12_1).f1.f1))).trans hx136_2; replace hx136_3 := (cell_far (p := ⟨gb135, 3, none⟩) (by first | (rw [add_block]; exact hn136_3) | (show (Addr.add _ _).block ≠ _; rw [add_block]; exact hn136_3) | exact hn136_3) (.int .i64 ((rd_T57 t131 x12_1).f1.f1))).trans hx136_3; clear hn136_0; clear hn136_1; clear hn136_2; clear hn136_3; replace p136 := eq_true p136; replace q136 := eq_true q136) | ((with_reducible refine gate_dst (N := 6) rfl ?_); (try (refine gate_guard (by rfl) ?_; dsimp only)); refine box_event ?hg (N := 6) ?hd (cs := #[.int .i64 0, .int .i64 0, .int .i64 0, .int .i64 0]) (t := 57) ?hr ?_; (case hd => rfl); (case hg => rfl); (case hr => first | (go_simp; done) | (go_simp; rfl)); intro gb137 hg w18 hbox hb; have n0_ := Aside0.mk (Kd.R_below (Kd.R_elderB (by (with_reducible repeat (first | apply Kd.R_alloc | apply Kd.R_drewN | apply Kd.R_drew)); exact (Kd.R_mono (Kd.R_far (p := ⟨gb135, 3, none⟩) (Kd.R_far (p := ⟨gb135, 2, none⟩) (Kd.R_far (p := ⟨gb135, 1, none⟩) (Kd.R_far (p := ⟨gb135, 0, none⟩) (Kd.R_mono HO_3.out (fun k_ hk => (⟨hk, hk.2⟩ : _ ∧ k_ ≠ gb135))) (fun _ hk => hk.2) (.int .i64 ((rd_T57 t131 x12_1).f0.f0))) (fun _ hk => hk.2) (.int .i64 ((rd_T57 t131 x12_1).f0.f1))) (fun _ hk => hk.2) (.int .i64 ((rd_T57 t131 x12_1).f1.f0))) (fun _ hk => hk.2) (.int .i64 ((rd_T57 t131 x12_1).f1.f1))) (fun _ h_ => h_.1))) gb137 (Nat.le_of_eq hg.symm)) hb); have n1_ := Aside0.mk (Kd.R_below (Kd.R_elderB (by (with_reducible repeat (first | apply Kd.R_alloc | apply Kd.R_drewN | apply Kd.R_drew)); exact (Kd.R_mono (Kd.R_far (p := ⟨gb135, 3, none⟩) (Kd.R_far (p := ⟨gb135, 2, none⟩) (Kd.R_far (p := ⟨gb135, 1, none⟩) (Kd.R_far (p := ⟨gb135, 0, none⟩) (Kd.R_mono HO_10.out (fun k_ hk => (⟨hk, hk.2⟩ : _ ∧ k_ ≠ gb135))) (fun _ hk => hk.2) (.int .i64 ((rd_T57 t131 x12_1).f0.f0))) (fun _ hk => hk.2) (.int .i64 ((rd_T57 t131 x12_1).f0.f1))) (fun _ hk => hk.2) (.int .i64 ((rd_T57 t131 x12_1).f1.f0))) (fun _ hk => hk.2) (.int .i64 ((rd_T57 t131 x12_1).f1.f1))) (fun _ h_ => h_.1))) gb137 (Nat.le_of_eq hg.symm)) hb); have n2_ := Aside0.mk (blk_below (g := gb135) (o := .cells #[.int .i64 ((rd_T57 t131 x12_1).f0.f0), .int .i64 ((rd_T57 t131 x12_1).f0.f1), .int .i64 ((rd_T57 t131 x12_1).f1.f0), .int .i64 ((rd_T57 t131 x12_1).f1.f1)] 57 (0, 0)) (by (with_reducible repeat (first | refine blk_drewN ?_ _ | refine blk_drew ?_ | refine blk_alloc ?_ _)); refine blk_put (cs := #[.int .i64 ((rd_T57 t131 x12_1).f0.f0), .int .i64 ((rd_T57 t131 x12_1).f0.f1), .int .i64 ((rd_T57 t131 x12_1).f1.f0), .int .i64 0]) ?_ 3 _ rfl; (with_reducible repeat (first | refine blk_drewN ?_ _ | refine blk_drew ?_ | refine blk_alloc ?_ _)); refine blk_put (cs := #[.int .i64 ((rd_T57 t131 x12_1).f0.f0), .int .i64 ((rd_T57 t131 x12_1).f0.f1), .int .i64 0, .int .i64 0]) ?_ 2 _ rfl; (with_reducible repeat (first | refine blk_drewN ?_ _ | refine blk_drew ?_ | refine blk_alloc ?_ _)); refine blk_put (cs := #[.int .i64 ((rd_T57 t131 x12_1).f0.f0), .int .i64 0, .int .i64 0, .int .i64 0]) ?_ 1 _ rfl; (with_reducible repeat (first | refine blk_drewN ?_ _ | refine blk_drew ?_ | refine blk_alloc ?_ _)); refine blk_put (cs := #[.int .i64 0, .int .i64 0, .int .i64 0, .int .i64 0]) ?_ 0 _ rfl; (with_reducible repeat (first | refine blk_drewN ?_ _ | refine blk_drew ?_ | refine blk_alloc ?_ _)); exact BK135.out) hb); have n3_ := Aside0.mk (below_step (by repeat (first | (with_reducible first | exact HB.out | apply below_alloc | apply pw_below_drewN | apply below_drew1 | refine below_set ?_ GE135.out) | exact HB.out)) hb); have n4_ := Aside0.mk (hbox); have n5_ := Aside0.mk ((by rw [hg]; exact (below_size (by repeat (first | (with_reducible first | exact HB.out | apply below_alloc | apply pw_below_drewN | apply below_drew1 | refine below_set ?_ GE135.out) | exact HB.out))) : w.heap.size ≤ gb137)); have n6_ := Aside0.mk ((by rw [hg]; exact (below_size (by repeat (first | (with_reducible first | exact HB.out | apply below_alloc | apply pw_below_drewN | apply below_drew1 | refine below_set ?_ GE135.out) | exact HB.out))) : w.heap.size ≤ gb137)); have n7_ := Aside0.mk ((by rw [hg]; exact Nat.ne_of_lt (blk_lt (g := gb135) (o := .cells #[.int .i64 ((rd_T57 t131 x12_1).f0.f0), .int .i64 ((rd_T57 t131 x12_1).f0.f1), .int .i64 ((rd_T57 t131 x12_1).f1.f0), .int .i64 ((rd_T57 t131 x12_1).f1.f1)] 57 (0, 0)) (by (with_reducible repeat (first | refine blk_drewN ?_ _ | refine blk_drew ?_ | refine blk_alloc ?_ _)); refine blk_put (cs := #[.int .i64 ((rd_T57 t131 x12_1).f0.f0), .int .i64 ((rd_T57 t131 x12_1).f0.f1), .int .i64 ((rd_T57 t131 x12_1).f1.f0), .int .i64 0]) ?_ 3 _ rfl; (with_reducible repeat (first | refine blk_drewN ?_ _ | refine blk_drew ?_ | refine blk_alloc ?_ _)); refine blk_put (cs := #[.int .i64 ((rd_T57 t131 x12_1).f0.f0), .int .i64 ((rd_T57 t131 x12_1).f0.f1), .int .i64 0, .int .i64 0]) ?_ 2 _ rfl; (with_reducible repeat (first | refine blk_drewN ?_ _ | refine blk_drew ?_ | refine blk_alloc ?_ _)); refine blk_put (cs := #[.int .i64 ((rd_T57 t131 x12_1).f0.f0), .int .i64 0, .int .i64 0, .int .i64 0]) ?_ 1 _ rfl; (with_reducible repeat (first | refine blk_drewN ?_ _ | refine blk_drew ?_ | refine blk_alloc ?_ _)); refine blk_put (cs := #[.int .i64 0, .int .i64 0, .int .i64 0, .int .i64 0]) ?_ 0 _ rfl; (with_reducible repeat (first | refine blk_drewN ?_ _ | refine blk_drew ?_ | refine blk_alloc ?_ _)); exact BK135.out)) : gb135 ≠ gb137)); have n8_ := Aside0.mk ((by rw [hg]; exact Nat.ne_of_gt (blk_lt (g := gb135) (o := .cells #[.int .i64 ((rd_T57 t131 x12_1).f0.f0), .int .i64 ((rd_T57 t131 x12_1).f0.f1), .int .i64 ((rd_T57 t131 x12_1).f1.f0), .int .i64 ((rd_T57 t131 x12_1).f1.f1)] 57 (0, 0)) (by (with_reducible repeat (first | refine blk_drewN ?_ _ | refine blk_drew ?_ | refine blk_alloc ?_ _)); refine blk_put (cs := #[.int .i64 ((rd_T57 t131 x12_1).f0.f0), .int .i64 ((rd_T57 t131 x12_1).f0.f1), .int .i64 ((rd_T57 t131 x12_1).f1.f0), .int .i64 0]) ?_ 3 _ rfl; (with_reducible repeat (first | refine blk_drewN ?_ _ | refine blk_drew ?_ | refine blk_alloc ?_ _)); refine blk_put (cs := #[.int .i64 ((rd_T57 t131 x12_1).f0.f0), .int .i64 ((rd_T57 t131 x12_1).f0.f1), .int .i64 0, .int .i64 0]) ?_ 2 _ rfl; (with_reducible repeat (first | refine blk_drewN ?_ _ | refine blk_drew ?_ | refine blk_alloc ?_ _)); refine blk_put (cs := #[.int .i64 ((rd_T57 t131 x12_1).f0.f0), .int .i64 0, .int .i64 0, .int .i64 0]) ?_ 1 _ rfl; (with_reducible repeat (first | refine blk_drewN ?_ _ | refine blk_drew ?_ | refine blk_alloc ?_ _)); refine blk_put (cs := #[.int .i64 0, .int .i64 0, .int .i64 0, .int .i64 0]) ?_ 0 _ rfl; (with_reducible repeat (first | refine blk_drewN ?_ _ | refine blk_drew ?_ | refine blk_alloc ?_ _)); exact BK135.out)) : gb137 ≠ gb135)); clear HO_3; clear HO_10; clear BK135; clear HB; have HO_3 := n0_; have HO_10 := n1_; have BK135 := n2_; have HB := n3_; have BK137 := n4_; have GW137 := n5_; have GE137 := n6_; have NB135_137 := n7_; have NB137_135 := n8_; clear n0_ n1_ n2_ n3_ n4_ n5_ n6_ n7_ n8_; clear hb hbox hg; have hnb19 := NB137_135.out; have hnc19 := NB135_137.out; have hcz20_0 : w18.cell? ⟨gb137, 0, none⟩ = some (.int .i64 0) := (blk_cell BK137.out 0).trans rfl; have hcz20_1 : w18.cell? ⟨gb137, 1, none⟩ = some (.int .i64 0) := (blk_cell BK137.out 1).trans rfl; have hcz20_2 : w18.cell? ⟨gb137, 2, none⟩ = some (.int .i64 0) := (blk_cell BK137.out 2).trans rfl; have hcz20_3 : w18.cell? ⟨gb137, 3, none⟩ = some (.int .i64 0) := (blk_cell BK137.out 3).trans rfl; have hfz20_0 := blk_frozen BK137.out 0; have hfz20_1 := blk_frozen BK137.out 1; have hfz20_2 := blk_frozen BK137.out 2; have hfz20_3 := blk_frozen BK137.out 3))
          (try simp only [Act.put, List.setIfInBounds_toArray, List.set_cons_zero, List.set_cons_succ])
          go_cut [39] (fun v39 wc => ∃ (kq : Nat) (x39_14 : Bool), v39 = .bool x39_14 ∧ Aside0 (polygon_simple.j1 kq t131 x12_1 t131 (t131.length : Int) x12_1 x39_14 ((rd_T57 t131 x12_1).f0.f0) ((rd_T57 t131 x12_1).f0.f1) ((rd_T57 t131 x12_1).f1.f0) ((rd_T57 t131 x12_1).f1.f1) = some r) ∧ Aside0 (kq ≤ k1) ∧ Aside0 (Kd.R k57 57 wc w.heap.size (fun k_ => k_ ≠ gb135 ∧ k_ ≠ gb137) (.slice (some ad134) t131.length co4) t131) ∧ Aside0 (Kd.R k57 57 wc w.heap.size (fun k_ => k_ ≠ gb135 ∧ k_ ≠ gb137) (.slice (some ad134) t131.length co4) t131) ∧ Aside0 (wc.heap[gb135]? = some (.cells #[.int .i64 ((rd_T57 t131 x12_1).f0.f0), .int .i64 ((rd_T57 t131 x12_1).f0.f1), .int .i64 ((rd_T57 t131 x12_1).f1.f0), .int .i64 ((rd_T57 t131 x12_1).f1.f1)] 57 (0, 0))) ∧ Aside0 (wc.heap[gb137]? = some (.cells #[.int .i64 ((rd_T57 t131 (ji12)).f0.f0), .int .i64 ((rd_T57 t131 (ji12)).f0.f1), .int .i64 ((rd_T57 t131 (ji12)).f1.f0), .int .i64 ((rd_T57 t131 (ji12)).f1.f1)] 57 (0, 0))) ∧ Aside0 (Below w.heap.size w wc))
          case first =>
           have H := HC15.out
           clear HC15
           replace H := Option.bind_eq_some_iff.mp H
           obtain ⟨t138, A210, H⟩ := H
           replace H : (if t138 = true then (polygon_simple.j1 k1 t131 x12_1 t131 (t131.length : Int) x12_1 true ((rd_T57 t131 x12_1).f0.f0) ((rd_T57 t131 x12_1).f0.f1) ((rd_T57 t131 x12_1).f1.f0) ((rd_T57 t131 x12_1).f1.f1)) else ((polygon_side_holds.f ((rd_T57 t131 (ji12)).f0.f0) ((rd_T57 t131 (ji12)).f0.f1) ((rd_T57 t131 (ji12)).f1.f0) ((rd_T57 t131 (ji12)).f1.f1) ((rd_T57 t131 x12_1).f0.f0) ((rd_T57 t131 x12_1).f0.f1)).bind fun t139 => (polygon_simple.j1 k1 t131 x12_1 t131 (t131.length : Int) x12_1 t139 ((rd_T57 t131 x12_1).f0.f0) ((rd_T57 t131 x12_1).f0.f1) ((rd_T57 t131 x12_1).f1.f0) ((rd_T57 t131 x12_1).f1.f1)))) = some r := H
           have A21 := Aside0.mk A210
           clear A210
           by_cases c22 : t138 = true
           ·subst c22
            have H1 : (polygon_simple.j1 k1 t131 x12_1 t131 (t131.length : Int) x12_1 true ((rd_T57 t131 x12_1).f0.f0) ((rd_T57 t131 x12_1).f0.f1) ((rd_T57 t131 x12_1).f1.f0) ((rd_T57 t131 x12_1).f1.f1)) = some r := by rw [if_pos rfl] at H; exact H
            clear H
            have H := H1
            clear H1
            have H' := Aside0.mk H
            clear H
            have hnb23 := NB135_137.out
            have hnc23 := NB137_135.out
            have hcz24_0 : w18.cell? ⟨gb135, 0, none⟩ = some (.int .i64 ((rd_T57 t131 x12_1).f0.f0)) := (blk_cell BK135.out 0).trans rfl
            have hcz24_1 : w18.cell? ⟨gb135, 1, none⟩ = some (.int .i64 ((rd_T57 t131 x12_1).f0.f1)) := (blk_cell BK135.out 1).trans rfl
            have hcz24_2 : w18.cell? ⟨gb135, 2, none⟩ = some (.int .i64 ((rd_T57 t131 x12_1).f1.f0)) := (blk_cell BK135.out 2).trans rfl
            have hcz24_3 : w18.cell? ⟨gb135, 3, none⟩ = some (.int .i64 ((rd_T57 t131 x12_1).f1.f1)) := (blk_cell BK135.out 3).trans rfl
            have hfz24_0 := blk_frozen BK135.out 0
            have hfz24_1 := blk_frozen BK135.out 1
            have hfz24_2 := blk_frozen BK135.out 2
            have hfz24_3 := blk_frozen BK135.out 3
            have hcz25_0 : w18.cell? ⟨gb137, 0, none⟩ = some (.int .i64 0) := (blk_cell BK137.out 0).trans rfl
            have hcz25_1 : w18.cell? ⟨gb137, 1, none⟩ = some (.int .i64 0) := (blk_cell BK137.out 1).trans rfl
            have hcz25_2 : w18.cell? ⟨gb137, 2, none⟩ = some (.int .i64 0) := (blk_cell BK137.out 2).trans rfl
            have hcz25_3 : w18.cell? ⟨gb137, 3, none⟩ = some (.int .i64 0) := (blk_cell BK137.out 3).trans rfl
            have hfz25_0 := blk_frozen BK137.out 0
            have hfz25_1 := blk_frozen BK137.out 1
            have hfz25_2 := blk_frozen BK137.out 2
            have hfz25_3 := blk_frozen BK137.out 3
            go_wp2_with (first | ((with_reducible refine gate_callee (f := 43) rfl ?_); refine goesL_ (some 33) rfl rfl Try.func43 (by kernel_rfl) rfl #[.agg #[.int .i64 ((rd_T57 t131 x12_1).f0.f0), .int .i64 ((rd_T57 t131 x12_1).f0.f1), .int .i64 ((rd_T57 t131 x12_1).f1.f0), .int .i64 ((rd_T57 t131 x12_1).f1.f1)], .agg #[.int .i64 ((rd_T57 t131 (ji12)).f1.f0), .int .i64 ((rd_T57 t131 (ji12)).f1.f1)]] rfl (by (try simp only [List.map_toArray, List.map_cons, List.map_nil]); first | done | (simp only [hji12]; rfl) | rfl | (simp only [List.length_drop, List.length_take]; rfl)) ?_; (with_reducible refine (polygon_side_holds.calls ((rd_T57 t131 x12_1).f0.f0) ((rd_T57 t131 x12_1).f0.f1) ((rd_T57 t131 x12_1).f1.f0) ((rd_T57 t131 x12_1).f1.f1) ((rd_T57 t131 (ji12)).f1.f0) ((rd_T57 t131 (ji12)).f1.f1) true _ A21.out).mono ?_); rintro e w26 ⟨rfl, hb⟩; refine ⟨_, rfl, ?_⟩; have n0_ := Aside0.mk (Kd.R_below (by (with_reducible repeat (first | apply Kd.R_alloc | apply Kd.R_drewN | apply Kd.R_drew)); exact (Kd.R_mono (Kd.R_far (p := ⟨gb137, 3, none⟩) (Kd.R_far (p := ⟨gb137, 2, none⟩) (Kd.R_far (p := ⟨gb137, 1, none⟩) (Kd.R_far (p := ⟨gb137, 0, none⟩) (Kd.R_mono HO_3.out (fun k_ hk => (⟨hk, hk.2⟩ : _ ∧ k_ ≠ gb137))) (fun _ hk => hk.2) (.int .i64 ((rd_T57 t131 (ji12)).f0.f0))) (fun _ hk => hk.2) (.int .i64 ((rd_T57 t131 (ji12)).f0.f1))) (fun _ hk => hk.2) (.int .i64 ((rd_T57 t131 (ji12)).f1.f0))) (fun _ hk => hk.2) (.int .i64 ((rd_T57 t131 (ji12)).f1.f1))) (fun _ h_ => h_.1))) hb); have n1_ := Aside0.mk (Kd.R_below (by (with_reducible repeat (first | apply Kd.R_alloc | apply Kd.R_drewN | apply Kd.R_drew)); exact (Kd.R_mono (Kd.R_far (p := ⟨gb137, 3, none⟩) (Kd.R_far (p := ⟨gb137, 2, none⟩) (Kd.R_far (p := ⟨gb137, 1, none⟩) (Kd.R_far (p := ⟨gb137, 0, none⟩) (Kd.R_mono HO_10.out (fun k_ hk => (⟨hk, hk.2⟩ : _ ∧ k_ ≠ gb137))) (fun _ hk => hk.2) (.int .i64 ((rd_T57 t131 (ji12)).f0.f0))) (fun _ hk => hk.2) (.int .i64 ((rd_T57 t131 (ji12)).f0.f1))) (fun _ hk => hk.2) (.int .i64 ((rd_T57 t131 (ji12)).f1.f0))) (fun _ hk => hk.2) (.int .i64 ((rd_T57 t131 (ji12)).f1.f1))) (fun _ h_ => h_.1))) hb); have n2_ := Aside0.mk (blk_below (g := gb135) (o := .cells #[.int .i64 ((rd_T57 t131 x12_1).f0.f0), .int .i64 ((rd_T57 t131 x12_1).f0.f1), .int .i64 ((rd_T57 t131 x12_1).f1.f0), .int .i64 ((rd_T57 t131 x12_1).f1.f1)] 57 (0, 0)) (by (with_reducible repeat (first | refine blk_drewN ?_ _ | refine blk_drew ?_ | refine blk_alloc ?_ _)); refine blk_far ?_ NB135_137.out _; (with_reducible repeat (first | refine blk_drewN ?_ _ | refine blk_drew ?_ | refine blk_alloc ?_ _)); refine blk_far ?_ NB135_137.out _; (with_reducible repeat (first | refine blk_drewN ?_ _ | refine blk_drew ?_ | refine blk_alloc ?_ _)); refine blk_far ?_ NB135_137.out _; (with_reducible repeat (first | refine blk_drewN ?_ _ | refine blk_drew ?_ | refine blk_alloc ?_ _)); refine blk_far ?_ NB135_137.out _; (with_reducible repeat (first | refine blk_drewN ?_ _ | refine blk_drew ?_ | refine blk_alloc ?_ _)); exact BK135.out) hb); have n3_ := Aside0.mk (blk_below (g := gb137) (o := .cells #[.int .i64 ((rd_T57 t131 (ji12)).f0.f0), .int .i64 ((rd_T57 t131 (ji12)).f0.f1), .int .i64 ((rd_T57 t131 (ji12)).f1.f0), .int .i64 ((rd_T57 t131 (ji12)).f1.f1)] 57 (0, 0)) (by (with_reducible repeat (first | refine blk_drewN ?_ _ | refine blk_drew ?_ | refine blk_alloc ?_ _)); refine blk_put (cs := #[.int .i64 ((rd_T57 t131 (ji12)).f0.f0), .int .i64 ((rd_T57 t131 (ji12)).f0.f1), .int .i64 ((rd_T57 t131 (ji12)).f1.f0), .int .i64 0]) ?_ 3 _ rfl; (with_reducible repeat (first | refine blk_drewN ?_ _ | refine blk_drew ?_ | refine blk_alloc ?_ _)); refine blk_put (cs := #[.int .i64 ((rd_T57 t131 (ji12)).f0.f0), .int .i64 ((rd_T57 t131 (ji12)).f0.f1), .int .i64 0, .int .i64 0]) ?_ 2 _ rfl; (with_reducible repeat (first | refine blk_drewN ?_ _ | refine blk_drew ?_ | refine blk_alloc ?_ _)); refine blk_put (cs := #[.int .i64 ((rd_T57 t131 (ji12)).f0.f0), .int .i64 0, .int .i64 0, .int .i64 0]) ?_ 1 _ rfl; (with_reducible repeat (first | refine blk_drewN ?_ _ | refine blk_drew ?_ | refine blk_alloc ?_ _)); refine blk_put (cs := #[.int .i64 0, .int .i64 0, .int .i64 0, .int .i64 0]) ?_ 0 _ rfl; (with_reducible repeat (first | refine blk_drewN ?_ _ | refine blk_drew ?_ | refine blk_alloc ?_ _)); exact BK137.out) hb); have n4_ := Aside0.mk (below_step (by repeat (first | (with_reducible first | exact HB.out | apply below_alloc | apply pw_below_drewN | apply below_drew1 | refine below_set ?_ GE135.out | refine below_set ?_ GE137.out) | exact HB.out)) hb); clear HO_3; clear HO_10; clear BK135; clear BK137; clear HB; have HO_3 := n0_; have HO_10 := n1_; have BK135 := n2_; have BK137 := n3_; have HB := n4_; clear n0_ n1_ n2_ n3_ n4_; (try clear hb); (try clear hb2); (try clear hk); (try clear hi)))
            go_meet
            case rel => exact ⟨_, (true), (by first | rfl | (simp; done) | (simp [*]; done)), H', ⟨by have := HK1.out; first | omega | exact Nat.le_refl _⟩, ⟨by (with_reducible repeat (first | apply Kd.R_alloc | apply Kd.R_drewN | apply Kd.R_drew)); exact Kd.R_mono HO_3.out (fun _ hk => ⟨hk.1.2, hk.2⟩)⟩, ⟨by (with_reducible repeat (first | apply Kd.R_alloc | apply Kd.R_drewN | apply Kd.R_drew)); exact Kd.R_mono HO_10.out (fun _ hk => ⟨hk.1.2, hk.2⟩)⟩, ⟨by (with_reducible repeat (first | refine blk_drewN ?_ _ | refine blk_drew ?_ | refine blk_alloc ?_ _)); exact BK135.out⟩, ⟨by (with_reducible repeat (first | refine blk_drewN ?_ _ | refine blk_drew ?_ | refine blk_alloc ?_ _)); exact BK137.out⟩, ⟨by repeat (first | (with_reducible first | exact HB.out | apply below_alloc | apply pw_below_drewN | apply below_drew1 | refine below_set ?_ GE135.out | refine below_set ?_ GE137.out) | exact HB.out)⟩⟩
           ·replace c22 := Bool.eq_false_iff.mpr c22
            subst c22
            have H1 : ((polygon_side_holds.f ((rd_T57 t131 (ji12)).f0.f0) ((rd_T57 t131 (ji12)).f0.f1) ((rd_T57 t131 (ji12)).f1.f0) ((rd_T57 t131 (ji12)).f1.f1) ((rd_T57 t131 x12_1).f0.f0) ((rd_T57 t131 x12_1).f0.f1)).bind fun t139 => (polygon_simple.j1 k1 t131 x12_1 t131 (t131.length : Int) x12_1 t139 ((rd_T57 t131 x12_1).f0.f0) ((rd_T57 t131 x12_1).f0.f1) ((rd_T57 t131 x12_1).f1.f0) ((rd_T57 t131 x12_1).f1.f1))) = some r := by rw [if_neg (show ¬ (false = true) by decide)] at H; exact H
            clear H
            have H := H1
            clear H1
            replace H := Option.bind_eq_some_iff.mp H
            obtain ⟨t139, A270, H⟩ := H
            replace H : (polygon_simple.j1 k1 t131 x12_1 t131 (t131.length : Int) x12_1 t139 ((rd_T57 t131 x12_1).f0.f0) ((rd_T57 t131 x12_1).f0.f1) ((rd_T57 t131 x12_1).f1.f0) ((rd_T57 t131 x12_1).f1.f1)) = some r := H
            have A27 := Aside0.mk A270
            clear A270
            have H' := Aside0.mk H
            clear H
            have hnb28 := NB135_137.out
            have hnc28 := NB137_135.out
            have hcz29_0 : w18.cell? ⟨gb135, 0, none⟩ = some (.int .i64 ((rd_T57 t131 x12_1).f0.f0)) := (blk_cell BK135.out 0).trans rfl
            have hcz29_1 : w18.cell? ⟨gb135, 1, none⟩ = some (.int .i64 ((rd_T57 t131 x12_1).f0.f1)) := (blk_cell BK135.out 1).trans rfl
            have hcz29_2 : w18.cell? ⟨gb135, 2, none⟩ = some (.int .i64 ((rd_T57 t131 x12_1).f1.f0)) := (blk_cell BK135.out 2).trans rfl
            have hcz29_3 : w18.cell? ⟨gb135, 3, none⟩ = some (.int .i64 ((rd_T57 t131 x12_1).f1.f1)) := (blk_cell BK135.out 3).trans rfl
            have hfz29_0 := blk_frozen BK135.out 0
            have hfz29_1 := blk_frozen BK135.out 1
            have hfz29_2 := blk_frozen BK135.out 2
            have hfz29_3 := blk_frozen BK135.out 3
            have hcz30_0 : w18.cell? ⟨gb137, 0, none⟩ = some (.int .i64 0) := (blk_cell BK137.out 0).trans rfl
            have hcz30_1 : w18.cell? ⟨gb137, 1, none⟩ = some (.int .i64 0) := (blk_cell BK137.out 1).trans rfl
            have hcz30_2 : w18.cell? ⟨gb137, 2, none⟩ = some (.int .i64 0) := (blk_cell BK137.out 2).trans rfl
            have hcz30_3 : w18.cell? ⟨gb137, 3, none⟩ = some (.int .i64 0) := (blk_cell BK137.out 3).trans rfl
            have hfz30_0 := blk_frozen BK137.out 0
            have hfz30_1 := blk_frozen BK137.out 1
            have hfz30_2 := blk_frozen BK137.out 2
            have hfz30_3 := blk_frozen BK137.out 3
            go_wp2_with (first | ((with_reducible refine gate_callee (f := 43) rfl ?_); refine goesL_ (some 33) rfl rfl Try.func43 (by kernel_rfl) rfl #[.agg #[.int .i64 ((rd_T57 t131 x12_1).f0.f0), .int .i64 ((rd_T57 t131 x12_1).f0.f1), .int .i64 ((rd_T57 t131 x12_1).f1.f0), .int .i64 ((rd_T57 t131 x12_1).f1.f1)], .agg #[.int .i64 ((rd_T57 t131 (ji12)).f1.f0), .int .i64 ((rd_T57 t131 (ji12)).f1.f1)]] rfl (by (try simp only [List.map_toArray, List.map_cons, List.map_nil]); first | done | (simp only [hji12]; rfl) | rfl | (simp only [List.length_drop, List.length_take]; rfl)) ?_; (with_reducible refine (polygon_side_holds.calls ((rd_T57 t131 x12_1).f0.f0) ((rd_T57 t131 x12_1).f0.f1) ((rd_T57 t131 x12_1).f1.f0) ((rd_T57 t131 x12_1).f1.f1) ((rd_T57 t131 (ji12)).f1.f0) ((rd_T57 t131 (ji12)).f1.f1) false _ A21.out).mono ?_); rintro e w31 ⟨rfl, hb⟩; refine ⟨_, rfl, ?_⟩; have n0_ := Aside0.mk (Kd.R_below (by (with_reducible repeat (first | apply Kd.R_alloc | apply Kd.R_drewN | apply Kd.R_drew)); exact (Kd.R_mono (Kd.R_far (p := ⟨gb137, 3, none⟩) (Kd.R_far (p := ⟨gb137, 2, none⟩) (Kd.R_far (p := ⟨gb137, 1, none⟩) (Kd.R_far (p := ⟨gb137, 0, none⟩) (Kd.R_mono HO_3.out (fun k_ hk => (⟨hk, hk.2⟩ : _ ∧ k_ ≠ gb137))) (fun _ hk => hk.2) (.int .i64 ((rd_T57 t131 (ji12)).f0.f0))) (fun _ hk => hk.2) (.int .i64 ((rd_T57 t131 (ji12)).f0.f1))) (fun _ hk => hk.2) (.int .i64 ((rd_T57 t131 (ji12)).f1.f0))) (fun _ hk => hk.2) (.int .i64 ((rd_T57 t131 (ji12)).f1.f1))) (fun _ h_ => h_.1))) hb); have n1_ := Aside0.mk (Kd.R_below (by (with_reducible repeat (first | apply Kd.R_alloc | apply Kd.R_drewN | apply Kd.R_drew)); exact (Kd.R_mono (Kd.R_far (p := ⟨gb137, 3, none⟩) (Kd.R_far (p := ⟨gb137, 2, none⟩) (Kd.R_far (p := ⟨gb137, 1, none⟩) (Kd.R_far (p := ⟨gb137, 0, none⟩) (Kd.R_mono HO_10.out (fun k_ hk => (⟨hk, hk.2⟩ : _ ∧ k_ ≠ gb137))) (fun _ hk => hk.2) (.int .i64 ((rd_T57 t131 (ji12)).f0.f0))) (fun _ hk => hk.2) (.int .i64 ((rd_T57 t131 (ji12)).f0.f1))) (fun _ hk => hk.2) (.int .i64 ((rd_T57 t131 (ji12)).f1.f0))) (fun _ hk => hk.2) (.int .i64 ((rd_T57 t131 (ji12)).f1.f1))) (fun _ h_ => h_.1))) hb); have n2_ := Aside0.mk (blk_below (g := gb135) (o := .cells #[.int .i64 ((rd_T57 t131 x12_1).f0.f0), .int .i64 ((rd_T57 t131 x12_1).f0.f1), .int .i64 ((rd_T57 t131 x12_1).f1.f0), .int .i64 ((rd_T57 t131 x12_1).f1.f1)] 57 (0, 0)) (by (with_reducible repeat (first | refine blk_drewN ?_ _ | refine blk_drew ?_ | refine blk_alloc ?_ _)); refine blk_far ?_ NB135_137.out _; (with_reducible repeat (first | refine blk_drewN ?_ _ | refine blk_drew ?_ | refine blk_alloc ?_ _)); refine blk_far ?_ NB135_137.out _; (with_reducible repeat (first | refine blk_drewN ?_ _ | refine blk_drew ?_ | refine blk_alloc ?_ _)); refine blk_far ?_ NB135_137.out _; (with_reducible repeat (first | refine blk_drewN ?_ _ | refine blk_drew ?_ | refine blk_alloc ?_ _)); refine blk_far ?_ NB135_137.out _; (with_reducible repeat (first | refine blk_drewN ?_ _ | refine blk_drew ?_ | refine blk_alloc ?_ _)); exact BK135.out) hb); have n3_ := Aside0.mk (blk_below (g := gb137) (o := .cells #[.int .i64 ((rd_T57 t131 (ji12)).f0.f0), .int .i64 ((rd_T57 t131 (ji12)).f0.f1), .int .i64 ((rd_T57 t131 (ji12)).f1.f0), .int .i64 ((rd_T57 t131 (ji12)).f1.f1)] 57 (0, 0)) (by (with_reducible repeat (first | refine blk_drewN ?_ _ | refine blk_drew ?_ | refine blk_alloc ?_ _)); refine blk_put (cs := #[.int .i64 ((rd_T57 t131 (ji12)).f0.f0), .int .i64 ((rd_T57 t131 (ji12)).f0.f1), .int .i64 ((rd_T57 t131 (ji12)).f1.f0), .int .i64 0]) ?_ 3 _ rfl; (with_reducible repeat (first | refine blk_drewN ?_ _ | refine blk_drew ?_ | refine blk_alloc ?_ _)); refine blk_put (cs := #[.int .i64 ((rd_T57 t131 (ji12)).f0.f0), .int .i64 ((rd_T57 t131 (ji12)).f0.f1), .int .i64 0, .int .i64 0]) ?_ 2 _ rfl; (with_reducible repeat (first | refine blk_drewN ?_ _ | refine blk_drew ?_ | refine blk_alloc ?_ _)); refine blk_put (cs := #[.int .i64 ((rd_T57 t131 (ji12)).f0.f0), .int .i64 0, .int .i64 0, .int .i64 0]) ?_ 1 _ rfl; (with_reducible repeat (first | refine blk_drewN ?_ _ | refine blk_drew ?_ | refine blk_alloc ?_ _)); refine blk_put (cs := #[.int .i64 0, .int .i64 0, .int .i64 0, .int .i64 0]) ?_ 0 _ rfl; (with_reducible repeat (first | refine blk_drewN ?_ _ | refine blk_drew ?_ | refine blk_alloc ?_ _)); exact BK137.out) hb); have n4_ := Aside0.mk (below_step (by repeat (first | (with_reducible first | exact HB.out | apply below_alloc | apply pw_below_drewN | apply below_drew1 | refine below_set ?_ GE135.out | refine below_set ?_ GE137.out) | exact HB.out)) hb); clear HO_3; clear HO_10; clear BK135; clear BK137; clear HB; have HO_3 := n0_; have HO_10 := n1_; have BK135 := n2_; have BK137 := n3_; have HB := n4_; clear n0_ n1_ n2_ n3_ n4_; (try clear hb); (try clear hb2); (try clear hk); (try clear hi); have hcz32_0 : w31.cell? ⟨gb137, 0, none⟩ = some (.int .i64 ((rd_T57 t131 (ji12)).f0.f0)) := (blk_cell BK137.out 0).trans rfl; have hcz32_1 : w31.cell? ⟨gb137, 1, none⟩ = some (.int .i64 ((rd_T57 t131 (ji12)).f0.f1)) := (blk_cell BK137.out 1).trans rfl; have hcz32_2 : w31.cell? ⟨gb137, 2, none⟩ = some (.int .i64 ((rd_T57 t131 (ji12)).f1.f0)) := (blk_cell BK137.out 2).trans rfl; have hcz32_3 : w31.cell? ⟨gb137, 3, none⟩ = some (.int .i64 ((rd_T57 t131 (ji12)).f1.f1)) := (blk_cell BK137.out 3).trans rfl; have hfz32_0 := blk_frozen BK137.out 0; have hfz32_1 := blk_frozen BK137.out 1; have hfz32_2 := blk_frozen BK137.out 2; have hfz32_3 := blk_frozen BK137.out 3; have hcz33_0 : w31.cell? ⟨gb135, 0, none⟩ = some (.int .i64 ((rd_T57 t131 x12_1).f0.f0)) := (blk_cell BK135.out 0).trans rfl; have hcz33_1 : w31.cell? ⟨gb135, 1, none⟩ = some (.int .i64 ((rd_T57 t131 x12_1).f0.f1)) := (blk_cell BK135.out 1).trans rfl; have hcz33_2 : w31.cell? ⟨gb135, 2, none⟩ = some (.int .i64 ((rd_T57 t131 x12_1).f1.f0)) := (blk_cell BK135.out 2).trans rfl; have hcz33_3 : w31.cell? ⟨gb135, 3, none⟩ = some (.int .i64 ((rd_T57 t131 x12_1).f1.f1)) := (blk_cell BK135.out 3).trans rfl; have hfz33_0 := blk_frozen BK135.out 0; have hfz33_1 := blk_frozen BK135.out 1; have hfz33_2 := blk_frozen BK135.out 2; have hfz33_3 := blk_frozen BK135.out 3) | (go_at_call 43; (with_reducible refine (polygon_side_holds.calls ((rd_T57 t131 (ji12)).f0.f0) ((rd_T57 t131 (ji12)).f0.f1) ((rd_T57 t131 (ji12)).f1.f0) ((rd_T57 t131 (ji12)).f1.f1) ((rd_T57 t131 x12_1).f0.f0) ((rd_T57 t131 x12_1).f0.f1) t139 _ A27.out).mono ?_); rintro e w34 ⟨rfl, hb⟩; have n0_ := Aside0.mk (Kd.R_below (by (with_reducible repeat (first | apply Kd.R_alloc | apply Kd.R_drewN | apply Kd.R_drew)); exact HO_3.out) hb); have n1_ := Aside0.mk (Kd.R_below (by (with_reducible repeat (first | apply Kd.R_alloc | apply Kd.R_drewN | apply Kd.R_drew)); exact HO_10.out) hb); have n2_ := Aside0.mk (blk_below (g := gb135) (o := .cells #[.int .i64 ((rd_T57 t131 x12_1).f0.f0), .int .i64 ((rd_T57 t131 x12_1).f0.f1), .int .i64 ((rd_T57 t131 x12_1).f1.f0), .int .i64 ((rd_T57 t131 x12_1).f1.f1)] 57 (0, 0)) (by (with_reducible repeat (first | refine blk_drewN ?_ _ | refine blk_drew ?_ | refine blk_alloc ?_ _)); exact BK135.out) hb); have n3_ := Aside0.mk (blk_below (g := gb137) (o := .cells #[.int .i64 ((rd_T57 t131 (ji12)).f0.f0), .int .i64 ((rd_T57 t131 (ji12)).f0.f1), .int .i64 ((rd_T57 t131 (ji12)).f1.f0), .int .i64 ((rd_T57 t131 (ji12)).f1.f1)] 57 (0, 0)) (by (with_reducible repeat (first | refine blk_drewN ?_ _ | refine blk_drew ?_ | refine blk_alloc ?_ _)); exact BK137.out) hb); have n4_ := Aside0.mk (below_step (by repeat (first | (with_reducible first | exact HB.out | apply below_alloc | apply pw_below_drewN | apply below_drew1 | refine below_set ?_ GE135.out | refine below_set ?_ GE137.out) | exact HB.out)) hb); clear HO_3; clear HO_10; clear BK135; clear BK137; clear HB; have HO_3 := n0_; have HO_10 := n1_; have BK135 := n2_; have BK137 := n3_; have HB := n4_; clear n0_ n1_ n2_ n3_ n4_; (try clear hb); (try clear hb2); (try clear hk); (try clear hi)))
            go_meet
            case rel => exact ⟨_, (t139), (by first | rfl | (simp; done) | (simp [*]; done)), H', ⟨by have := HK1.out; first | omega | exact Nat.le_refl _⟩, ⟨by (with_reducible repeat (first | apply Kd.R_alloc | apply Kd.R_drewN | apply Kd.R_drew)); exact Kd.R_mono HO_3.out (fun _ hk => ⟨hk.1.2, hk.2⟩)⟩, ⟨by (with_reducible repeat (first | apply Kd.R_alloc | apply Kd.R_drewN | apply Kd.R_drew)); exact Kd.R_mono HO_10.out (fun _ hk => ⟨hk.1.2, hk.2⟩)⟩, ⟨by (with_reducible repeat (first | refine blk_drewN ?_ _ | refine blk_drew ?_ | refine blk_alloc ?_ _)); exact BK135.out⟩, ⟨by (with_reducible repeat (first | refine blk_drewN ?_ _ | refine blk_drew ?_ | refine blk_alloc ?_ _)); exact BK137.out⟩, ⟨by repeat (first | (with_reducible first | exact HB.out | apply below_alloc | apply pw_below_drewN | apply below_drew1 | refine below_set ?_ GE135.out | refine below_set ?_ GE137.out) | exact HB.out)⟩⟩
          case rest =>
           clear HC15
           try clear c1
           try clear p1
           try clear q1
           try clear hx1
           try clear c2
           try clear p2
           try clear c4
           try clear c5
           try clear c5b0
           try clear c6
           try clear c6b0
           try clear p6
           try clear c7
           try clear c7b0
           try clear c8
           try clear c8b0
           try clear c8b1
           try clear c8b2
           try clear c11
           try clear c11b0
           try clear c11b1
           try clear c11b2
           try clear c13
           try clear c13b0
           try clear p13
           try clear q13
           try clear hx13
           try clear c14
           try clear c14b0
           try clear c19
           try clear c22
           try clear c23
           try clear c28
           try clear hcz10_0
           try clear hcz10_1
           try clear hcz10_2
           try clear hcz10_3
           try clear hcz17_0
           try clear hcz17_1
           try clear hcz17_2
           try clear hcz17_3
           try clear hcz20_0
           try clear hcz20_1
           try clear hcz20_2
           try clear hcz20_3
           try clear hcz24_0
           try clear hcz24_1
           try clear hcz24_2
           try clear hcz24_3
           try clear hcz25_0
           try clear hcz25_1
           try clear hcz25_2
           try clear hcz25_3
           try clear hcz29_0
           try clear hcz29_1
           try clear hcz29_2
           try clear hcz29_3
           try clear hcz30_0
           try clear hcz30_1
           try clear hcz30_2
           try clear hcz30_3
           try clear hcz32_0
           try clear hcz32_1
           try clear hcz32_2
           try clear hcz32_3
           try clear hcz33_0
           try clear hcz33_1
           try clear hcz33_2
           try clear hcz33_3
           try clear hfz10_0
           try clear hfz10_1
           try clear hfz10_2
           try clear hfz10_3
           try clear hfz17_0
           try clear hfz17_1
           try clear hfz17_2
           try clear hfz17_3
           try clear hfz20_0
           try clear hfz20_1
           try clear hfz20_2
           try clear hfz20_3
           try clear hfz24_0
           try clear hfz24_1
           try clear hfz24_2
           try clear hfz24_3
           try clear hfz25_0
           try clear hfz25_1
           try clear hfz25_2
           try clear hfz25_3
           try clear hfz29_0
           try clear hfz29_1
           try clear hfz29_2
           try clear hfz29_3
           try clear hfz30_0
           try clear hfz30_1
           try clear hfz30_2
           try clear hfz30_3
           try clear hfz32_0
           try clear hfz32_1
           try clear hfz32_2
           try clear hfz32_3
           try clear hfz33_0
           try clear hfz33_1
           try clear hfz33_2
           try clear hfz33_3
           try clear hx134_0
           try clear hx134_1
           try clear hx134_2
           try clear hx134_3
           try clear hx136_0
           try clear hx136_1
           try clear hx136_2
           try clear hx136_3
           try clear p134
           try clear p136
           try clear p2
           try clear q134
           try clear q136
           obtain ⟨kq, x39_14, rfl, HA, HJ14, HO_3, HO_10, BK135, BK137, HB⟩ := hcut
           cases kq with
           | zero => exact absurd HA.out (by simp [polygon_simple.j1])
           | succ kj14 =>
            have H := HA.out
            clear HA
            simp only [polygon_simple.j1] at H
            by_cases c35 : x39_14 = true
            ·subst c35
             have H1 : (some false) = some r := by rw [if_pos rfl] at H; exact H
             clear H
             have H := H1
             clear H1
             obtain rfl := Option.some.inj H
             go_wp2
             go_ret
             exact ⟨by first | rfl | (simp [errW_none, errW_some] <;> rfl) | (simp only [← hji12]; first | rfl | (simp [errW_none, errW_some] <;> rfl)) | (simp [*, errW_none, errW_some] <;> rfl), by repeat (first | (with_reducible first | exact HB.out | apply below_alloc | apply pw_below_drewN | apply below_drew1 | refine below_set ?_ GE135.out | refine below_set ?_ GE137.out) | exact HB.out)⟩
            ·replace c35 := Bool.eq_false_iff.mpr c35
             subst c35
             have H1 : (polygon_simple.l1 kj14 t131 x12_1 (wrap64 (x12_1 + 2)) t131 (t131.length : Int) x12_1 ((rd_T57 t131 x12_1).f0.f0) ((rd_T57 t131 x12_1).f0.f1) ((rd_T57 t131 x12_1).f1.f0) ((rd_T57 t131 x12_1).f1.f1)) = some r := by rw [if_neg (show ¬ (false = true) by decide)] at H; exact H
             clear H
             have H := H1
             clear H1
             have H' := Aside0.mk H
             clear H
             go_wp2
             go_loopg [7] kj14 (fun kq v7 w' => ∃ (x7_3 : Int), v7 = .int .i64 x7_3 ∧ Aside0 (polygon_simple.l1 kq t131 x12_1 x7_3 t131 (t131.length : Int) x12_1 ((rd_T57 t131 x12_1).f0.f0) ((rd_T57 t131 x12_1).f0.f1) ((rd_T57 t131 x12_1).f1.f0) ((rd_T57 t131 x12_1).f1.f1) = some r) ∧ Aside0 (kq ≤ kj14) ∧ Aside0 (Kd.R k57 57 w' w.heap.size (fun k_ => k_ ≠ gb135 ∧ k_ ≠ gb137) (.slice (some ad134) t131.length co4) t131) ∧ Aside0 (Kd.R k57 57 w' w.heap.size (fun k_ => k_ ≠ gb135 ∧ k_ ≠ gb137) (.slice (some ad134) t131.length co4) t131) ∧ Aside0 (w'.heap[gb135]? = some (.cells #[.int .i64 ((rd_T57 t131 x12_1).f0.f0), .int .i64 ((rd_T57 t131 x12_1).f0.f1), .int .i64 ((rd_T57 t131 x12_1).f1.f0), .int .i64 ((rd_T57 t131 x12_1).f1.f1)] 57 (0, 0))) ∧ Aside0 (w'.heap[gb137]? = some (.cells #[.int .i64 ((rd_T57 t131 (ji12)).f0.f0), .int .i64 ((rd_T57 t131 (ji12)).f0.f1), .int .i64 ((rd_T57 t131 (ji12)).f1.f0), .int .i64 ((rd_T57 t131 (ji12)).f1.f1)] 57 (0, 0))) ∧ Aside0 (Below w.heap.size w w'))
             case atStart => exact ⟨(wrap64 (x12_1 + 2)), (by first | rfl | (simp; done) | (simp [*]; done)), H', ⟨Nat.le_refl _⟩, ⟨by (with_reducible repeat (first | apply Kd.R_alloc | apply Kd.R_drewN | apply Kd.R_drew)); exact HO_3.out⟩, ⟨by (with_reducible repeat (first | apply Kd.R_alloc | apply Kd.R_drewN | apply Kd.R_drew)); exact HO_10.out⟩, ⟨by (with_reducible repeat (first | refine blk_drewN ?_ _ | refine blk_drew ?_ | refine blk_alloc ?_ _)); exact BK135.out⟩, ⟨by (with_reducible repeat (first | refine blk_drewN ?_ _ | refine blk_drew ?_ | refine blk_alloc ?_ _)); exact BK137.out⟩, ⟨by repeat (first | (with_reducible first | exact HB.out | apply below_alloc | apply pw_below_drewN | apply below_drew1 | refine below_set ?_ GE135.out | refine below_set ?_ GE137.out) | exact HB.out)⟩⟩
             case round =>
              clear H'
              try clear c1
              try clear p1
              try clear q1
              try clear hx1
              try clear c2
              try clear p2
              try clear c3
              try clear c4
              try clear c5
              try clear c5b0
              try clear c6
              try clear c6b0
              try clear p6
              try clear c7
              try clear c7b0
              try clear c8
              try clear c8b0
              try clear c8b1
              try clear c8b2
              try clear c11
              try clear c11b0
              try clear c11b1
              try clear c11b2
              try clear c13
              try clear c13b0
              try clear p13
              try clear q13
              try clear hx13
              try clear c14
              try clear c14b0
              try clear c19
              try clear c22
              try clear c23
              try clear c28
              try clear c35
              try clear hcz10_0
              try clear hcz10_1
              try clear hcz10_2
              try clear hcz10_3
              try clear hcz17_0
              try clear hcz17_1
              try clear hcz17_2
              try clear hcz17_3
              try clear hcz20_0
              try clear hcz20_1
              try clear hcz20_2
              try clear hcz20_3
              try clear hcz24_0
              try clear hcz24_1
              try clear hcz24_2
              try clear hcz24_3
              try clear hcz25_0
              try clear hcz25_1
              try clear hcz25_2
              try clear hcz25_3
              try clear hcz29_0
              try clear hcz29_1
              try clear hcz29_2
              try clear hcz29_3
              try clear hcz30_0
              try clear hcz30_1
              try clear hcz30_2
              try clear hcz30_3
              try clear hcz32_0
              try clear hcz32_1
              try clear hcz32_2
              try clear hcz32_3
              try clear hcz33_0
              try clear hcz33_1
              try clear hcz33_2
              try clear hcz33_3
              try clear hfz10_0
              try clear hfz10_1
              try clear hfz10_2
              try clear hfz10_3
              try clear hfz17_0
              try clear hfz17_1
              try clear hfz17_2
              try clear hfz17_3
              try clear hfz20_0
              try clear hfz20_1
              try clear hfz20_2
              try clear hfz20_3
              try clear hfz24_0
              try clear hfz24_1
              try clear hfz24_2
              try clear hfz24_3
              try clear hfz25_0
              try clear hfz25_1
              try clear hfz25_2
              try clear hfz25_3
              try clear hfz29_0
              try clear hfz29_1
              try clear hfz29_2
              try clear hfz29_3
              try clear hfz30_0
              try clear hfz30_1
              try clear hfz30_2
              try clear hfz30_3
              try clear hfz32_0
              try clear hfz32_1
              try clear hfz32_2
              try clear hfz32_3
              try clear hfz33_0
              try clear hfz33_1
              try clear hfz33_2
              try clear hfz33_3
              try clear hx134_0
              try clear hx134_1
              try clear hx134_2
              try clear hx134_3
              try clear hx136_0
              try clear hx136_1
              try clear hx136_2
              try clear hx136_3
              try clear p1
              try clear p13
              try clear p134
              try clear p136
              try clear p2
              try clear p6
              try clear q1
              try clear q13
              try clear q134
              try clear q136
              obtain ⟨x7_3, rfl, HA, HK3, HO_3, HO_10, BK135, BK137, HB⟩ := hrel
              cases gk with
              | zero => exact absurd HA.out (by simp [polygon_simple.l1])
              | succ k3 =>
               have H := HA.out
               clear HA
               simp only [polygon_simple.l1] at H
               by_cases c36 : x7_3 < (t131.length : Int)
               ·rw [if_pos c36] at H
                have c36b0 : decide (x7_3 < (t131.length : Int)) = true := decide_eq_true c36
                clear c36
                have HC37 := Aside0.mk H
                clear H
                go_upto_region 13 with (fail)
                go_cut [56] (fun v56 wc => ∃ (kq : Nat) (x56_36 : Bool), v56 = .bool x56_36 ∧ Aside0 (polygon_simple.j3 kq t131 x12_1 x7_3 t131 (t131.length : Int) x12_1 x56_36 ((rd_T57 t131 x12_1).f0.f0) ((rd_T57 t131 x12_1).f0.f1) ((rd_T57 t131 x12_1).f1.f0) ((rd_T57 t131 x12_1).f1.f1) = some r) ∧ Aside0 (kq ≤ k3) ∧ Aside0 (Kd.R k57 57 wc w.heap.size (fun k_ => k_ ≠ gb135 ∧ k_ ≠ gb137) (.slice (some ad134) t131.length co4) t131) ∧ Aside0 (Kd.R k57 57 wc w.heap.size (fun k_ => k_ ≠ gb135 ∧ k_ ≠ gb137) (.slice (some ad134) t131.length co4) t131) ∧ Aside0 (wc.heap[gb135]? = some (.cells #[.int .i64 ((rd_T57 t131 x12_1).f0.f0), .int .i64 ((rd_T57 t131 x12_1).f0.f1), .int .i64 ((rd_T57 t131 x12_1).f1.f0), .int .i64 ((rd_T57 t131 x12_1).f1.f1)] 57 (0, 0))) ∧ Aside0 (wc.heap[gb137]? = some (.cells #[.int .i64 ((rd_T57 t131 (ji12)).f0.f0), .int .i64 ((rd_T57 t131 (ji12)).f0.f1), .int .i64 ((rd_T57 t131 (ji12)).f1.f0), .int .i64 ((rd_T57 t131 (ji12)).f1.f1)] 57 (0, 0))) ∧ Aside0 (Below w.heap.size w wc))
                case first =>
                 have H := HC37.out
                 clear HC37
                 by_cases c38 : x12_1 = 0
                 ·rw [if_pos c38] at H
                  have c38b0 : (x12_1 == 0) = true := beq_iff_eq.mpr c38
                  have c38b1 : (x12_1 != 0) = false := bne_eq_false_iff_eq.mpr c38
                  clear c38
                  (first | rw [c38b0] | (simp only [i64_w, i32_w]; rw [c38b0]) | skip)
                  have H' := Aside0.mk H
                  clear H
                  go_wp2
                  go_meet
                  case rel => exact ⟨_, ((x7_3 == (wrap64 ((t131.length : Int) - 1)))), (by first | rfl | (simp; done) | (simp [*]; done)), H', ⟨by have := HK1.out; have := HJ14.out; have := HK3.out; first | omega | exact Nat.le_refl _⟩, ⟨by (with_reducible repeat (first | apply Kd.R_alloc | apply Kd.R_drewN | apply Kd.R_drew)); exact HO_3.out⟩, ⟨by (with_reducible repeat (first | apply Kd.R_alloc | apply Kd.R_drewN | apply Kd.R_drew)); exact HO_10.out⟩, ⟨by (with_reducible repeat (first | refine blk_drewN ?_ _ | refine blk_drew ?_ | refine blk_alloc ?_ _)); exact BK135.out⟩, ⟨by (with_reducible repeat (first | refine blk_drewN ?_ _ | refine blk_drew ?_ | refine blk_alloc ?_ _)); exact BK137.out⟩, ⟨by repeat (first | (with_reducible first | exact HB.out | apply below_alloc | apply pw_below_drewN | apply below_drew1 | refine below_set ?_ GE135.out | refine below_set ?_ GE137.out) | exact HB.out)⟩⟩
                 ·rw [if_neg c38] at H
                  have c38b0 : (x12_1 == 0) = false := beq_eq_false_iff_ne.mpr c38
                  have c38b1 : (x12_1 != 0) = true := bne_iff_ne.mpr c38
                  (first | rw [c38b0] | (simp only [i64_w, i32_w]; rw [c38b0]) | skip)
                  have H' := Aside0.mk H
                  clear H
                  go_wp2
                  go_meet
                  case rel => exact ⟨_, (false), (by first | rfl | (simp; done) | (simp [*]; done)), H', ⟨by have := HK1.out; have := HJ14.out; have := HK3.out; first | omega | exact Nat.le_refl _⟩, ⟨by (with_reducible repeat (first | apply Kd.R_alloc | apply Kd.R_drewN | apply Kd.R_drew)); exact HO_3.out⟩, ⟨by (with_reducible repeat (first | apply Kd.R_alloc | apply Kd.R_drewN | apply Kd.R_drew)); exact HO_10.out⟩, ⟨by (with_reducible repeat (first | refine blk_drewN ?_ _ | refine blk_drew ?_ | refine blk_alloc ?_ _)); exact BK135.out⟩, ⟨by (with_reducible repeat (first | refine blk_drewN ?_ _ | refine blk_drew ?_ | refine blk_alloc ?_ _)); exact BK137.out⟩, ⟨by repeat (first | (with_reducible first | exact HB.out | apply below_alloc | apply pw_below_drewN | apply below_drew1 | refine below_set ?_ GE135.out | refine below_set ?_ GE137.out) | exact HB.out)⟩⟩
                case rest =>
                 clear HC37
                 try clear c1
                 try clear p1
                 try clear q1
                 try clear hx1
                 try clear c2
                 try clear p2
                 try clear c3
                 try clear c4
                 try clear c5
                 try clear c5b0
                 try clear c6
                 try clear c6b0
                 try clear p6
                 try clear c7
                 try clear c7b0
                 try clear c8
                 try clear c8b0
                 try clear c8b1
                 try clear c8b2
                 try clear c11
                 try clear c11b0
                 try clear c11b1
                 try clear c11b2
                 try clear c13
                 try clear c13b0
                 try clear p13
                 try clear q13
                 try clear hx13
                 try clear c14
                 try clear c14b0
                 try clear c19
                 try clear c22
                 try clear c23
                 try clear c28
                 try clear c35
                 try clear c36
                 try clear c36b0
                 try clear c38
                 try clear c38b0
                 try clear c38b1
                 try clear hcz10_0
                 try clear hcz10_1
                 try clear hcz10_2
                 try clear hcz10_3
                 try clear hcz17_0
                 try clear hcz17_1
                 try clear hcz17_2
                 try clear hcz17_3
                 try clear hcz20_0
                 try clear hcz20_1
                 try clear hcz20_2
                 try clear hcz20_3
                 try clear hcz24_0
                 try clear hcz24_1
                 try clear hcz24_2
                 try clear hcz24_3
                 try clear hcz25_0
                 try clear hcz25_1
                 try clear hcz25_2
                 try clear hcz25_3
                 try clear hcz29_0
                 try clear hcz29_1
                 try clear hcz29_2
                 try clear hcz29_3
                 try clear hcz30_0
                 try clear hcz30_1
                 try clear hcz30_2
                 try clear hcz30_3
                 try clear hcz32_0
                 try clear hcz32_1
                 try clear hcz32_2
                 try clear hcz32_3
                 try clear hcz33_0
                 try clear hcz33_1
                 try clear hcz33_2
                 try clear hcz33_3
                 try clear hfz10_0
                 try clear hfz10_1
                 try clear hfz10_2
                 try clear hfz10_3
                 try clear hfz17_0
                 try clear hfz17_1
                 try clear hfz17_2
                 try clear hfz17_3
                 try clear hfz20_0
                 try clear hfz20_1
                 try clear hfz20_2
                 try clear hfz20_3
                 try clear hfz24_0
                 try clear hfz24_1
                 try clear hfz24_2
                 try clear hfz24_3
                 try clear hfz25_0
                 try clear hfz25_1
                 try clear hfz25_2
                 try clear hfz25_3
                 try clear hfz29_0
                 try clear hfz29_1
                 try clear hfz29_2
                 try clear hfz29_3
                 try clear hfz30_0
                 try clear hfz30_1
                 try clear hfz30_2
                 try clear hfz30_3
                 try clear hfz32_0
                 try clear hfz32_1
                 try clear hfz32_2
                 try clear hfz32_3
                 try clear hfz33_0
                 try clear hfz33_1
                 try clear hfz33_2
                 try clear hfz33_3
                 try clear hx134_0
                 try clear hx134_1
                 try clear hx134_2
                 try clear hx134_3
                 try clear hx136_0
                 try clear hx136_1
                 try clear hx136_2
                 try clear hx136_3
                 try clear p1
                 try clear p13
                 try clear p134
                 try clear p136
                 try clear p2
                 try clear p6
                 try clear q1
                 try clear q13
                 try clear q134
                 try clear q136
                 obtain ⟨kq, x56_36, rfl, HA, HJ36, HO_3, HO_10, BK135, BK137, HB⟩ := hcut
                 cases kq with
                 | zero => exact absurd HA.out (by simp [polygon_simple.j3])
                 | succ kj36 =>
                  have H := HA.out
                  clear HA
                  simp only [polygon_simple.j3] at H
                  by_cases c39 : x56_36 = true
                  ·subst c39
                   have H1 : (polygon_simple.l1 kj36 t131 x12_1 (wrap64 (x7_3 + 1)) t131 (t131.length : Int) x12_1 ((rd_T57 t131 x12_1).f0.f0) ((rd_T57 t131 x12_1).f0.f1) ((rd_T57 t131 x12_1).f1.f0) ((rd_T57 t131 x12_1).f1.f1)) = some r := by rw [if_pos rfl] at H; exact H
                   clear H
                   have H := H1
                   clear H1
                   have H' := Aside0.mk H
                   clear H
                   go_wp2
                   go_roundg kj36
                   case measure => have := HK1.out; have := HJ14.out; have := HK3.out; have := HJ36.out; omega
                   case rel => exact ⟨(wrap64 (x7_3 + 1)), (by first | rfl | (simp; done) | (simp [*]; done)), H', ⟨by have := HK1.out; have := HJ14.out; have := HK3.out; have := HJ36.out; omega⟩, ⟨by (with_reducible repeat (first | apply Kd.R_alloc | apply Kd.R_drewN | apply Kd.R_drew)); exact HO_3.out⟩, ⟨by (with_reducible repeat (first | apply Kd.R_alloc | apply Kd.R_drewN | apply Kd.R_drew)); exact HO_10.out⟩, ⟨by (with_reducible repeat (first | refine blk_drewN ?_ _ | refine blk_drew ?_ | refine blk_alloc ?_ _)); exact BK135.out⟩, ⟨by (with_reducible repeat (first | refine blk_drewN ?_ _ | refine blk_drew ?_ | refine blk_alloc ?_ _)); exact BK137.out⟩, ⟨by repeat (first | (with_reducible first | exact HB.out | apply below_alloc | apply pw_below_drewN | apply below_drew1 | refine below_set ?_ GE135.out | refine below_set ?_ GE137.out) | exact HB.out)⟩⟩
                  ·replace c39 := Bool.eq_false_iff.mpr c39
                   subst c39
                   have H1 : (if 0 ≤ x7_3 then (if x7_3 < (t131.length : Int) then ((polygon_side_meets.f ((rd_T57 t131 x12_1).f0.f0) ((rd_T57 t131 x12_1).f0.f1) ((rd_T57 t131 x12_1).f1.f0) ((rd_T57 t131 x12_1).f1.f1) ((rd_T57 t131 x7_3).f0.f0) ((rd_T57 t131 x7_3).f0.f1) ((rd_T57 t131 x7_3).f1.f0) ((rd_T57 t131 x7_3).f1.f1)).bind fun t141 => (if t141 = true then (some false) else (polygon_simple.l1 kj36 t131 x12_1 (wrap64 (x7_3 + 1)) t131 (t131.length : Int) x12_1 ((rd_T57 t131 x12_1).f0.f0) ((rd_T57 t131 x12_1).f0.f1) ((rd_T57 t131 x12_1).f1.f0) ((rd_T57 t131 x12_1).f1.f1)))) else (none)) else (none)) = some r := by rw [if_neg (show ¬ (false = true) by decide)] at H; exact H
                   clear H
                   have H := H1
                   clear H1
                   by_cases c40 : 0 ≤ x7_3
                   ·rw [if_pos c40] at H
                    have c40b0 : decide (0 ≤ x7_3) = true := decide_eq_true c40
                    clear c40
                    by_cases c41 : x7_3 < (t131.length : Int)
                    ·rw [if_pos c41] at H
                     have c41b0 : decide (x7_3 < (t131.length : Int)) = true := decide_eq_true c41
                     clear c41
                     replace H := Option.bind_eq_some_iff.mp H
                     obtain ⟨t141, A420, H⟩ := H
                     replace H : (if t141 = true then (some false) else (polygon_simple.l1 kj36 t131 x12_1 (wrap64 (x7_3 + 1)) t131 (t131.length : Int) x12_1 ((rd_T57 t131 x12_1).f0.f0) ((rd_T57 t131 x12_1).f0.f1) ((rd_T57 t131 x12_1).f1.f0) ((rd_T57 t131 x12_1).f1.f1))) = some r := H
                     have A42 := Aside0.mk A420
                     clear A420
                     by_cases c43 : t141 = true
                     ·subst c43
                      have H1 : (some false) = some r := by rw [if_pos rfl] at H; exact H
                      clear H
                      have H := H1
                      clear H1
                      obtain rfl := Option.some.inj H
                      try go_wp2
                      have n0_ := Aside0.mk (Kd.R_drew HO_3.out)
                      have n1_ := Aside0.mk (Kd.R_drew HO_10.out)
                      have n2_ := Aside0.mk (blk_drew BK135.out)
                      have n3_ := Aside0.mk (blk_drew BK137.out)
                      have n4_ := Aside0.mk (below_drew1 HB.out)
                      clear HO_3
                      clear HO_10
                      clear BK135
                      clear BK137
                      clear HB
                      have HO_3 := n0_
                      have HO_10 := n1_
                      have BK135 := n2_
                      have BK137 := n3_
                      have HB := n4_
                      clear n0_ n1_ n2_ n3_ n4_
                      have p140 : 0 ≤ (x7_3 : Int) := of_decide_eq_true (by first | (with_reducible assumption) | assumption)
                      have q140 : x7_3 < (t131.length : Int) := of_decide_eq_true (by first | (with_reducible assumption) | assumption)
                      obtain ⟨ad140, e140, hx140_0, hx140_1, hx140_2, hx140_3⟩ := at_T57 (Kd.R_reads' HO_3.out).2.2 x7_3 p140 q140
                      obtain rfl : ad134 = ad140 := (by injection e140)
                      replace p140 := eq_true p140
                      replace q140 := eq_true q140
                      refine start_ (n := 6) (S := fun w' => w'.cell? ⟨gb135, 0, none⟩ = some (.int .i64 ((rd_T57 t131 x12_1).f0.f0)) ∧ w'.cell? ⟨gb135, 1, none⟩ = some (.int .i64 ((rd_T57 t131 x12_1).f0.f1)) ∧ w'.cell? ⟨gb135, 2, none⟩ = some (.int .i64 ((rd_T57 t131 x12_1).f1.f0)) ∧ w'.cell? ⟨gb135, 3, none⟩ = some (.int .i64 ((rd_T57 t131 x12_1).f1.f1)) ∧ w'.cell? (ad134.add ((x7_3).toNat * 4)) = some (.int .i64 ((rd_T57 t131 x7_3).f0.f0)) ∧ w'.cell? ⟨(ad134.add ((x7_3).toNat * 4)).block, (ad134.add ((x7_3).toNat * 4)).off + 1, none⟩ = some (.int .i64 ((rd_T57 t131 x7_3).f0.f1)) ∧ w'.cell? ⟨(ad134.add ((x7_3).toNat * 4)).block, (ad134.add ((x7_3).toNat * 4)).off + 2, none⟩ = some (.int .i64 ((rd_T57 t131 x7_3).f1.f0)) ∧ w'.cell? ⟨(ad134.add ((x7_3).toNat * 4)).block, (ad134.add ((x7_3).toNat * 4)).off + 3, none⟩ = some (.int .i64 ((rd_T57 t131 x7_3).f1.f1))) (ds := []) #[false, false, false, false, false, false] (by kernel_rfl) rfl rfl ⟨(blk_cell BK135.out 0).trans rfl, (blk_cell BK135.out 1).trans rfl, (blk_cell BK135.out 2).trans rfl, (blk_cell BK135.out 3).trans rfl, hx140_0, hx140_1, hx140_2, hx140_3⟩ (fun hHeld => ?_)
                      generalize wc.drew = w44 at HO_3 HO_10 BK135 BK137 HB hx140_0 hx140_1 hx140_2 hx140_3 hHeld ⊢
                      refine pure_ (i := 1) (N := some 58) (v := ?_) (a' := ?_) #[false, true, false, false, false, false] rfl rfl (by kernel_rfl) (fun _ _ _ h => h) (Or.inl ⟨by rfl, ?_⟩) ?_ ?_
                      rotate_left
                      ·intro w'
                       go_simp
                       with_reducible rfl
                      rotate_left
                      ·simp only [Act.put, List.setIfInBounds_toArray, List.set_cons_zero, List.set_cons_succ, i64_w, i32_w]
                       rfl
                      refine pure_ (i := 2) (N := some 59) (v := ?_) (a' := ?_) #[false, true, true, false, false, false] rfl rfl (by kernel_rfl) (fun _ _ _ h => h) (Or.inl ⟨by rfl, ?_⟩) ?_ ?_
                      rotate_left
                      ·intro w'
                       go_simp
                       with_reducible rfl
                      rotate_left
                      ·simp only [Act.put, List.setIfInBounds_toArray, List.set_cons_zero, List.set_cons_succ, i64_w, i32_w]
                       rfl
                      refine pure_ (i := 3) (N := some 60) (v := ?_) (a' := ?_) #[false, true, true, true, false, false] rfl rfl (by kernel_rfl) (fun _ _ _ h => h) (Or.inl ⟨by rfl, ?_⟩) ?_ ?_
                      rotate_left
                      ·intro w'
                       go_simp
                       with_reducible rfl
                      rotate_left
                      ·simp only [Act.put, List.setIfInBounds_toArray, List.set_cons_zero, List.set_cons_succ, i64_w, i32_w]
                       rfl
                      refine take_ (i := 0) (N := some 57) (v := ?_) (a' := ?_) #[true, true, true, true, false, false] rfl rfl (by kernel_rfl) (fun _ _ _ h => h) (Or.inl ⟨by rfl, ?_⟩) hHeld ?_ ?_
                      rotate_left
                      ·rintro w' ⟨s0, s1, s2, s3, s4, s5, s6, s7⟩
                       go_simp
                       with_reducible rfl
                      rotate_left
                      ·simp only [Act.put, List.setIfInBounds_toArray, List.set_cons_zero, List.set_cons_succ, i64_w, i32_w]
                       rfl
                      refine take_ (i := 4) (N := some 61) (v := ?_) (a' := ?_) #[true, true, true, true, true, false] rfl rfl (by kernel_rfl) (fun _ _ _ h => h) (Or.inl ⟨by rfl, ?_⟩) hHeld ?_ ?_
                      rotate_left
                      ·rintro w' ⟨s0, s1, s2, s3, s4, s5, s6, s7⟩
                       go_simp
                       with_reducible rfl
                      rotate_left
                      ·simp only [Act.put, List.setIfInBounds_toArray, List.set_cons_zero, List.set_cons_succ, i64_w, i32_w]
                       rfl
                      refine one_ (i := 5) (N := some 62) #[true, true, true, true, true, true] rfl rfl (by kernel_rfl) (by decide) (fun K hK => ?_)
                      refine goes_ Try.func49 (by kernel_rfl) rfl #[.agg #[.int .i64 ((rd_T57 t131 x12_1).f0.f0), .int .i64 ((rd_T57 t131 x12_1).f0.f1), .int .i64 ((rd_T57 t131 x12_1).f1.f0), .int .i64 ((rd_T57 t131 x12_1).f1.f1)], .agg #[.int .i64 ((rd_T57 t131 x7_3).f0.f0), .int .i64 ((rd_T57 t131 x7_3).f0.f1), .int .i64 ((rd_T57 t131 x7_3).f1.f0), .int .i64 ((rd_T57 t131 x7_3).f1.f1)]] (by rfl) rfl rfl (by (try simp only [List.map_toArray, List.map_cons, List.map_nil]); first | done | rfl | (simp only [List.length_drop, List.length_take]; rfl)) ?_
                      with_reducible refine (polygon_side_meets.calls ((rd_T57 t131 x12_1).f0.f0) ((rd_T57 t131 x12_1).f0.f1) ((rd_T57 t131 x12_1).f1.f0) ((rd_T57 t131 x12_1).f1.f1) ((rd_T57 t131 x7_3).f0.f0) ((rd_T57 t131 x7_3).f0.f1) ((rd_T57 t131 x7_3).f1.f0) ((rd_T57 t131 x7_3).f1.f1) true _ A42.out).mono ?_
                      rintro e w45 ⟨rfl, hb⟩
                      have HS4_ := (hb.cell (World.block_lt_of_cell? _ _ (hHeld.2.2.2.2.1))).trans (hHeld.2.2.2.2.1)
                      have HS5_ := (hb.cell (World.block_lt_of_cell? _ _ (hHeld.2.2.2.2.2.1))).trans (hHeld.2.2.2.2.2.1)
                      have HS6_ := (hb.cell (World.block_lt_of_cell? _ _ (hHeld.2.2.2.2.2.2.1))).trans (hHeld.2.2.2.2.2.2.1)
                      have HS7_ := (hb.cell (World.block_lt_of_cell? _ _ (hHeld.2.2.2.2.2.2.2))).trans (hHeld.2.2.2.2.2.2.2)
                      refine ⟨_, rfl, ?_⟩
                      have n0_ := Aside0.mk (Kd.R_below (by (with_reducible repeat (first | apply Kd.R_alloc | apply Kd.R_drewN | apply Kd.R_drew)); exact HO_3.out) hb)
                      have n1_ := Aside0.mk (Kd.R_below (by (with_reducible repeat (first | apply Kd.R_alloc | apply Kd.R_drewN | apply Kd.R_drew)); exact HO_10.out) hb)
                      have n2_ := Aside0.mk (blk_below (g := gb135) (o := .cells #[.int .i64 ((rd_T57 t131 x12_1).f0.f0), .int .i64 ((rd_T57 t131 x12_1).f0.f1), .int .i64 ((rd_T57 t131 x12_1).f1.f0), .int .i64 ((rd_T57 t131 x12_1).f1.f1)] 57 (0, 0)) (by (with_reducible repeat (first | refine blk_drewN ?_ _ | refine blk_drew ?_ | refine blk_alloc ?_ _)); exact BK135.out) hb)
                      have n3_ := Aside0.mk (blk_below (g := gb137) (o := .cells #[.int .i64 ((rd_T57 t131 (ji12)).f0.f0), .int .i64 ((rd_T57 t131 (ji12)).f0.f1), .int .i64 ((rd_T57 t131 (ji12)).f1.f0), .int .i64 ((rd_T57 t131 (ji12)).f1.f1)] 57 (0, 0)) (by (with_reducible repeat (first | refine blk_drewN ?_ _ | refine blk_drew ?_ | refine blk_alloc ?_ _)); exact BK137.out) hb)
                      have n4_ := Aside0.mk (below_step (by repeat (first | (with_reducible first | exact HB.out | apply below_alloc | apply pw_below_drewN | apply below_drew1 | refine below_set ?_ GE135.out | refine below_set ?_ GE137.out) | exact HB.out)) hb)
                      clear HO_3
                      clear HO_10
                      clear BK135
                      clear BK137
                      clear HB
                      have HO_3 := n0_
                      have HO_10 := n1_
                      have BK135 := n2_
                      have BK137 := n3_
                      have HB := n4_
                      clear n0_ n1_ n2_ n3_ n4_
                      (try clear hb)
                      (try clear hb2)
                      (try clear hk)
                      (try clear hi)
                      refine hK.out _ _ ⟨(blk_cell BK135.out 0).trans rfl, (blk_cell BK135.out 1).trans rfl, (blk_cell BK135.out 2).trans rfl, (blk_cell BK135.out 3).trans rfl, HS4_, HS5_, HS6_, HS7_⟩ (fun hHeld => ?_)
                      clear hK K
                      refine norm_ (a' := ?_) ?_ ?_
                      rotate_left
                      ·show Act.put _ (some 62) _ = _
                       simp only [Act.put, List.setIfInBounds_toArray, List.set_cons_zero, List.set_cons_succ, i64_w, i32_w]
                       rfl
                      refine done_ (by kernel_rfl) ?_
                      try go_wp2
                      go_ret
                      exact ⟨by first | rfl | (simp [errW_none, errW_some] <;> rfl) | (simp only [← hji12]; first | rfl | (simp [errW_none, errW_some] <;> rfl)) | (simp [*, errW_none, errW_some] <;> rfl), by repeat (first | (with_reducible first | exact HB.out | apply below_alloc | apply pw_below_drewN | apply below_drew1 | refine below_set ?_ GE135.out | refine below_set ?_ GE137.out) | exact HB.out)⟩
                     ·replace c43 := Bool.eq_false_iff.mpr c43
                      subst c43
                      have H1 : (polygon_simple.l1 kj36 t131 x12_1 (wrap64 (x7_3 + 1)) t131 (t131.length : Int) x12_1 ((rd_T57 t131 x12_1).f0.f0) ((rd_T57 t131 x12_1).f0.f1) ((rd_T57 t131 x12_1).f1.f0) ((rd_T57 t131 x12_1).f1.f1)) = some r := by rw [if_neg (show ¬ (false = true) by decide)] at H; exact H
                      clear H
                      have H := H1
                      clear H1
                      have H' := Aside0.mk H
                      clear H
                      try go_wp2
                      have n0_ := Aside0.mk (Kd.R_drew HO_3.out)
                      have n1_ := Aside0.mk (Kd.R_drew HO_10.out)
                      have n2_ := Aside0.mk (blk_drew BK135.out)
                      have n3_ := Aside0.mk (blk_drew BK137.out)
                      have n4_ := Aside0.mk (below_drew1 HB.out)
                      clear HO_3
                      clear HO_10
                      clear BK135
                      clear BK137
                      clear HB
                      have HO_3 := n0_
                      have HO_10 := n1_
                      have BK135 := n2_
                      have BK137 := n3_
                      have HB := n4_
                      clear n0_ n1_ n2_ n3_ n4_
                      have p140 : 0 ≤ (x7_3 : Int) := of_decide_eq_true (by first | (with_reducible assumption) | assumption)
                      have q140 : x7_3 < (t131.length : Int) := of_decide_eq_true (by first | (with_reducible assumption) | assumption)
                      obtain ⟨ad140, e140, hx140_0, hx140_1, hx140_2, hx140_3⟩ := at_T57 (Kd.R_reads' HO_3.out).2.2 x7_3 p140 q140
                      obtain rfl : ad134 = ad140 := (by injection e140)
                      replace p140 := eq_true p140
                      replace q140 := eq_true q140
                      refine start_ (n := 6) (S := fun w' => w'.cell? ⟨gb135, 0, none⟩ = some (.int .i64 ((rd_T57 t131 x12_1).f0.f0)) ∧ w'.cell? ⟨gb135, 1, none⟩ = some (.int .i64 ((rd_T57 t131 x12_1).f0.f1)) ∧ w'.cell? ⟨gb135, 2, none⟩ = some (.int .i64 ((rd_T57 t131 x12_1).f1.f0)) ∧ w'.cell? ⟨gb135, 3, none⟩ = some (.int .i64 ((rd_T57 t131 x12_1).f1.f1)) ∧ w'.cell? (ad134.add ((x7_3).toNat * 4)) = some (.int .i64 ((rd_T57 t131 x7_3).f0.f0)) ∧ w'.cell? ⟨(ad134.add ((x7_3).toNat * 4)).block, (ad134.add ((x7_3).toNat * 4)).off + 1, none⟩ = some (.int .i64 ((rd_T57 t131 x7_3).f0.f1)) ∧ w'.cell? ⟨(ad134.add ((x7_3).toNat * 4)).block, (ad134.add ((x7_3).toNat * 4)).off + 2, none⟩ = some (.int .i64 ((rd_T57 t131 x7_3).f1.f0)) ∧ w'.cell? ⟨(ad134.add ((x7_3).toNat * 4)).block, (ad134.add ((x7_3).toNat * 4)).off + 3, none⟩ = some (.int .i64 ((rd_T57 t131 x7_3).f1.f1))) (ds := []) #[false, false, false, false, false, false] (by kernel_rfl) rfl rfl ⟨(blk_cell BK135.out 0).trans rfl, (blk_cell BK135.out 1).trans rfl, (blk_cell BK135.out 2).trans rfl, (blk_cell BK135.out 3).trans rfl, hx140_0, hx140_1, hx140_2, hx140_3⟩ (fun hHeld => ?_)
                      generalize wc.drew = w46 at HO_3 HO_10 BK135 BK137 HB hx140_0 hx140_1 hx140_2 hx140_3 hHeld ⊢
                      refine pure_ (i := 1) (N := some 58) (v := ?_) (a' := ?_) #[false, true, false, false, false, false] rfl rfl (by kernel_rfl) (fun _ _ _ h => h) (Or.inl ⟨by rfl, ?_⟩) ?_ ?_
                      rotate_left
                      ·intro w'
                       go_simp
                       with_reducible rfl
                      rotate_left
                      ·simp only [Act.put, List.setIfInBounds_toArray, List.set_cons_zero, List.set_cons_succ, i64_w, i32_w]
                       rfl
                      refine pure_ (i := 2) (N := some 59) (v := ?_) (a' := ?_) #[false, true, true, false, false, false] rfl rfl (by kernel_rfl) (fun _ _ _ h => h) (Or.inl ⟨by rfl, ?_⟩) ?_ ?_
                      rotate_left
                      ·intro w'
                       go_simp
                       with_reducible rfl
                      rotate_left
                      ·simp only [Act.put, List.setIfInBounds_toArray, List.set_cons_zero, List.set_cons_succ, i64_w, i32_w]
                       rfl
                      refine pure_ (i := 3) (N := some 60) (v := ?_) (a' := ?_) #[false, true, true, true, false, false] rfl rfl (by kernel_rfl) (fun _ _ _ h => h) (Or.inl ⟨by rfl, ?_⟩) ?_ ?_
                      rotate_left
                      ·intro w'
                       go_simp
                       with_reducible rfl
                      rotate_left
                      ·simp only [Act.put, List.setIfInBounds_toArray, List.set_cons_zero, List.set_cons_succ, i64_w, i32_w]
                       rfl
                      refine take_ (i := 0) (N := some 57) (v := ?_) (a' := ?_) #[true, true, true, true, false, false] rfl rfl (by kernel_rfl) (fun _ _ _ h => h) (Or.inl ⟨by rfl, ?_⟩) hHeld ?_ ?_
                      rotate_left
                      ·rintro w' ⟨s0, s1, s2, s3, s4, s5, s6, s7⟩
                       go_simp
                       with_reducible rfl
                      rotate_left
                      ·simp only [Act.put, List.setIfInBounds_toArray, List.set_cons_zero, List.set_cons_succ, i64_w, i32_w]
                       rfl
                      refine take_ (i := 4) (N := some 61) (v := ?_) (a' := ?_) #[true, true, true, true, true, false] rfl rfl (by kernel_rfl) (fun _ _ _ h => h) (Or.inl ⟨by rfl, ?_⟩) hHeld ?_ ?_
                      rotate_left
                      ·rintro w' ⟨s0, s1, s2, s3, s4, s5, s6, s7⟩
                       go_simp
                       with_reducible rfl
                      rotate_left
                      ·simp only [Act.put, List.setIfInBounds_toArray, List.set_cons_zero, List.set_cons_succ, i64_w, i32_w]
                       rfl
                      refine one_ (i := 5) (N := some 62) #[true, true, true, true, true, true] rfl rfl (by kernel_rfl) (by decide) (fun K hK => ?_)
                      refine goes_ Try.func49 (by kernel_rfl) rfl #[.agg #[.int .i64 ((rd_T57 t131 x12_1).f0.f0), .int .i64 ((rd_T57 t131 x12_1).f0.f1), .int .i64 ((rd_T57 t131 x12_1).f1.f0), .int .i64 ((rd_T57 t131 x12_1).f1.f1)], .agg #[.int .i64 ((rd_T57 t131 x7_3).f0.f0), .int .i64 ((rd_T57 t131 x7_3).f0.f1), .int .i64 ((rd_T57 t131 x7_3).f1.f0), .int .i64 ((rd_T57 t131 x7_3).f1.f1)]] (by rfl) rfl rfl (by (try simp only [List.map_toArray, List.map_cons, List.map_nil]); first | done | rfl | (simp only [List.length_drop, List.length_take]; rfl)) ?_
                      with_reducible refine (polygon_side_meets.calls ((rd_T57 t131 x12_1).f0.f0) ((rd_T57 t131 x12_1).f0.f1) ((rd_T57 t131 x12_1).f1.f0) ((rd_T57 t131 x12_1).f1.f1) ((rd_T57 t131 x7_3).f0.f0) ((rd_T57 t131 x7_3).f0.f1) ((rd_T57 t131 x7_3).f1.f0) ((rd_T57 t131 x7_3).f1.f1) false _ A42.out).mono ?_
                      rintro e w47 ⟨rfl, hb⟩
                      have HS4_ := (hb.cell (World.block_lt_of_cell? _ _ (hHeld.2.2.2.2.1))).trans (hHeld.2.2.2.2.1)
                      have HS5_ := (hb.cell (World.block_lt_of_cell? _ _ (hHeld.2.2.2.2.2.1))).trans (hHeld.2.2.2.2.2.1)
                      have HS6_ := (hb.cell (World.block_lt_of_cell? _ _ (hHeld.2.2.2.2.2.2.1))).trans (hHeld.2.2.2.2.2.2.1)
                      have HS7_ := (hb.cell (World.block_lt_of_cell? _ _ (hHeld.2.2.2.2.2.2.2))).trans (hHeld.2.2.2.2.2.2.2)
                      refine ⟨_, rfl, ?_⟩
                      have n0_ := Aside0.mk (Kd.R_below (by (with_reducible repeat (first | apply Kd.R_alloc | apply Kd.R_drewN | apply Kd.R_drew)); exact HO_3.out) hb)
                      have n1_ := Aside0.mk (Kd.R_below (by (with_reducible repeat (first | apply Kd.R_alloc | apply Kd.R_drewN | apply Kd.R_drew)); exact HO_10.out) hb)
                      have n2_ := Aside0.mk (blk_below (g := gb135) (o := .cells #[.int .i64 ((rd_T57 t131 x12_1).f0.f0), .int .i64 ((rd_T57 t131 x12_1).f0.f1), .int .i64 ((rd_T57 t131 x12_1).f1.f0), .int .i64 ((rd_T57 t131 x12_1).f1.f1)] 57 (0, 0)) (by (with_reducible repeat (first | refine blk_drewN ?_ _ | refine blk_drew ?_ | refine blk_alloc ?_ _)); exact BK135.out) hb)
                      have n3_ := Aside0.mk (blk_below (g := gb137) (o := .cells #[.int .i64 ((rd_T57 t131 (ji12)).f0.f0), .int .i64 ((rd_T57 t131 (ji12)).f0.f1), .int .i64 ((rd_T57 t131 (ji12)).f1.f0), .int .i64 ((rd_T57 t131 (ji12)).f1.f1)] 57 (0, 0)) (by (with_reducible repeat (first | refine blk_drewN ?_ _ | refine blk_drew ?_ | refine blk_alloc ?_ _)); exact BK137.out) hb)
                      have n4_ := Aside0.mk (below_step (by repeat (first | (with_reducible first | exact HB.out | apply below_alloc | apply pw_below_drewN | apply below_drew1 | refine below_set ?_ GE135.out | refine below_set ?_ GE137.out) | exact HB.out)) hb)
                      clear HO_3
                      clear HO_10
                      clear BK135
                      clear BK137
                      clear HB
                      have HO_3 := n0_
                      have HO_10 := n1_
                      have BK135 := n2_
                      have BK137 := n3_
                      have HB := n4_
                      clear n0_ n1_ n2_ n3_ n4_
                      (try clear hb)
                      (try clear hb2)
                      (try clear hk)
                      (try clear hi)
                      refine hK.out _ _ ⟨(blk_cell BK135.out 0).trans rfl, (blk_cell BK135.out 1).trans rfl, (blk_cell BK135.out 2).trans rfl, (blk_cell BK135.out 3).trans rfl, HS4_, HS5_, HS6_, HS7_⟩ (fun hHeld => ?_)
                      clear hK K
                      refine norm_ (a' := ?_) ?_ ?_
                      rotate_left
                      ·show Act.put _ (some 62) _ = _
                       simp only [Act.put, List.setIfInBounds_toArray, List.set_cons_zero, List.set_cons_succ, i64_w, i32_w]
                       rfl
                      refine done_ (by kernel_rfl) ?_
                      try go_wp2
                      go_roundg kj36
                      case measure => have := HK1.out; have := HJ14.out; have := HK3.out; have := HJ36.out; omega
                      case rel => exact ⟨(wrap64 (x7_3 + 1)), (by first | rfl | (simp; done) | (simp [*]; done)), H', ⟨by have := HK1.out; have := HJ14.out; have := HK3.out; have := HJ36.out; omega⟩, ⟨by (with_reducible repeat (first | apply Kd.R_alloc | apply Kd.R_drewN | apply Kd.R_drew)); exact HO_3.out⟩, ⟨by (with_reducible repeat (first | apply Kd.R_alloc | apply Kd.R_drewN | apply Kd.R_drew)); exact HO_10.out⟩, ⟨by (with_reducible repeat (first | refine blk_drewN ?_ _ | refine blk_drew ?_ | refine blk_alloc ?_ _)); exact BK135.out⟩, ⟨by (with_reducible repeat (first | refine blk_drewN ?_ _ | refine blk_drew ?_ | refine blk_alloc ?_ _)); exact BK137.out⟩, ⟨by repeat (first | (with_reducible first | exact HB.out | apply below_alloc | apply pw_below_drewN | apply below_drew1 | refine below_set ?_ GE135.out | refine below_set ?_ GE137.out) | exact HB.out)⟩⟩
                    ·rw [if_neg c41] at H
                     exact absurd H (by simp)
                   ·rw [if_neg c40] at H
                    exact absurd H (by simp)
               ·rw [if_neg c36] at H
                have c36b0 : decide (x7_3 < (t131.length : Int)) = false := decide_eq_false c36
                clear c36
                have H' := Aside0.mk H
                clear H
                go_wp2
                go_roundg k3
                case measure => have := HK1.out; have := HJ14.out; have := HK3.out; omega
                case rel => exact ⟨(wrap64 (x12_1 + 1)), (by first | rfl | (simp; done) | (simp [*]; done)), H', ⟨by have := HK1.out; have := HJ14.out; have := HK3.out; omega⟩, ⟨by (with_reducible repeat (first | apply Kd.R_alloc | apply Kd.R_drewN | apply Kd.R_drew)); exact Kd.R_mono HO_3.out (fun _ hk => trivial)⟩, ⟨by (with_reducible repeat (first | apply Kd.R_alloc | apply Kd.R_drewN | apply Kd.R_drew)); exact Kd.R_mono HO_10.out (fun _ hk => trivial)⟩, ⟨by repeat (first | (with_reducible first | exact HB.out | apply below_alloc | apply pw_below_drewN | apply below_drew1 | refine below_set ?_ GE135.out | refine below_set ?_ GE137.out) | exact HB.out)⟩⟩
         ·rw [if_neg c14] at H
          exact absurd H (by simp)
        ·rw [if_neg c13] at H
         exact absurd H (by simp)
     ·rw [if_neg c7] at H
      exact absurd H (by simp)
    ·rw [if_neg c6] at H
     exact absurd H (by simp)
   ·rw [if_neg c5] at H
    have c5b0 : decide (x12_1 < (t131.length : Int)) = false := decide_eq_false c5
    clear c5
    obtain rfl := Option.some.inj H
    go_wp2
    go_ret
    exact ⟨by first | rfl | (simp [errW_none, errW_some] <;> rfl) | (simp [*, errW_none, errW_some] <;> rfl), by repeat (first | (with_reducible first | exact HB.out | apply below_alloc | apply pw_below_drewN | apply below_drew1) | exact HB.out)⟩
end Go.Proofs.Ytccinkbneimmhaa.PPolygonCorners
