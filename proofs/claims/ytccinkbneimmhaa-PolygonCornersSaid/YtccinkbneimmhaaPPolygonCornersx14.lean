/- Written by a program of this session out of the translation. -/
import Derived.Test.YtccinkbneimmhaaPPolygonCornersx0
import Derived.Test.YtccinkbneimmhaaPPolygonCornersx2
import Derived.Test.YtccinkbneimmhaaPPolygonCornersx3
import Derived.Test.YtccinkbneimmhaaPPolygonCornersx7
import Derived.Test.YtccinkbneimmhaaPPolygonCornersx10
import Derived.Test.YtccinkbneimmhaaPPolygonCornersx11
import Derived.Test.YtccinkbneimmhaaPPolygonCornersx13
namespace Go.Proofs.Ytccinkbneimmhaa.PPolygonCorners
open Go.RowKit Go.Proofs.YtccinkbneimmhaaW.PrintWords Go.Proofs.YtccinkbneimmhaaW.PrintLast Go.Proofs.YtccinkbneimmhaaW.PrintMore
attribute [local go_sem] max2_int min2_int max_two min_two max_three min_three max_four min_four   -- for this text's walks alone
set_option linter.unusedVariables false
set_option linter.unusedSimpArgs false
attribute [local go_sem high] eqA41
/-! ### garmentlaw11_PolygonCorners: function 7 -/
mutual
def garmentlaw11_PolygonCorners.j0 : Nat → List (S30) → Int → Bool → Int → Int → Int → Int → Int → Int → Option (Bool)
 | 0, _, _, _, _, _, _, _, _, _ => none
 | k + 1, x0, x6, x30, x275000, x275001, x281000, x281001, x281002, x281003 => if x30 = true then ((garmentlaw11_few.f x0).bind fun t282 => (if t282 = true then ((polygon_Check.f k x0).bind fun t283 => (if t283 = x6 then (if (x281000 == 0 && (x281001 == 0 && (x281002 == 0 && (x281003 == 0)))) = true then ((garmentlaw11_awake.f k).bind fun t284 => (some t284)) else (none)) else (none))) else ((garmentlaw11_awake.f k).bind fun t285 => (some t285)))) else (garmentlaw11_PolygonCorners.l0 k x0 false false false false 0 x275000 x275001 x281000 x281001 x281002 x281003)
def garmentlaw11_PolygonCorners.l0 : Nat → List (S30) → Bool → Bool → Bool → Bool → Int → Int → Int → Int → Int → Int → Int → Option (Bool)
 | 0, _, _, _, _, _, _, _, _, _, _, _, _ => none
 | k + 1, x0, x7, x8, x9, x10, x11, x275000, x275001, x281000, x281001, x281002, x281003 => if x11 < (x0.length : Int) then (if 0 ≤ x11 then ((polygon_Where.f k x0 ((rd_T30 x0 x11).f0) ((rd_T30 x0 x11).f1)).bind fun bt287 => (if bt287.1 = 0 then (if bt287.2 = 0 then (if (wrap64 (((rd_T30 x0 x11).f0) - x281000)) < 0 then (none) else (if (wrap64 (((rd_T30 x0 x11).f0) - x281000)) > x281002 then (none) else (if (wrap64 (((rd_T30 x0 x11).f1) - x281001)) < 0 then (none) else (if (wrap64 (((rd_T30 x0 x11).f1) - x281001)) > x281003 then (none) else (if x7 = true then (if x8 = true then (if x9 = true then (if x10 = true then (garmentlaw11_PolygonCorners.l0 k x0 true true true true (wrap64 (x11 + 1)) x275000 x275001 x281000 x281001 x281002 x281003) else (garmentlaw11_PolygonCorners.l0 k x0 true true true ((wrap64 (((rd_T30 x0 x11).f1) - x281001)) == x281003) (wrap64 (x11 + 1)) x275000 x275001 x281000 x281001 x281002 x281003)) else (if x10 = true then (garmentlaw11_PolygonCorners.l0 k x0 true true ((wrap64 (((rd_T30 x0 x11).f1) - x281001)) == 0) true (wrap64 (x11 + 1)) x275000 x275001 x281000 x281001 x281002 x281003) else (garmentlaw11_PolygonCorners.l0 k x0 true true ((wrap64 (((rd_T30 x0 x11).f1) - x281001)) == 0) ((wrap64 (((rd_T30 x0 x11).f1) - x281001)) == x281003) (wrap64 (x11 + 1)) x275000 x275001 x281000 x281001 x281002 x281003))) else (if x9 = true then (if x10 = true then (garmentlaw11_PolygonCorners.l0 k x0 true ((wrap64 (((rd_T30 x0 x11).f0) - x281000)) == x281002) true true (wrap64 (x11 + 1)) x275000 x275001 x281000 x281001 x281002 x281003) else (garmentlaw11_PolygonCorners.l0 k x0 true ((wrap64 (((rd_T30 x0 x11).f0) - x281000)) == x281002) true ((wrap64 (((rd_T30 x0 x11).f1) - x281001)) == x281003) (wrap64 (x11 + 1)) x275000 x275001 x281000 x281001 x281002 x281003)) else (if x10 = true then (garmentlaw11_PolygonCorners.l0 k x0 true ((wrap64 (((rd_T30 x0 x11).f0) - x281000)) == x281002) ((wrap64 (((rd_T30 x0 x11).f1) - x281001)) == 0) true (wrap64 (x11 + 1)) x275000 x275001 x281000 x281001 x281002 x281003) else (garmentlaw11_PolygonCorners.l0 k x0 true ((wrap64 (((rd_T30 x0 x11).f0) - x281000)) == x281002) ((wrap64 (((rd_T30 x0 x11).f1) - x281001)) == 0) ((wrap64 (((rd_T30 x0 x11).f1) - x281001)) == x281003) (wrap64 (x11 + 1)) x275000 x275001 x281000 x281001 x281002 x281003)))) else (if x8 = true then (if x9 = true then (if x10 = true then (garmentlaw11_PolygonCorners.l0 k x0 ((wrap64 (((rd_T30 x0 x11).f0) - x281000)) == 0) true true true (wrap64 (x11 + 1)) x275000 x275001 x281000 x281001 x281002 x281003) else (garmentlaw11_PolygonCorners.l0 k x0 ((wrap64 (((rd_T30 x0 x11).f0) - x281000)) == 0) true true ((wrap64 (((rd_T30 x0 x11).f1) - x281001)) == x281003) (wrap64 (x11 + 1)) x275000 x275001 x281000 x281001 x281002 x281003)) else (if x10 = true then (garmentlaw11_PolygonCorners.l0 k x0 ((wrap64 (((rd_T30 x0 x11).f0) - x281000)) == 0) true ((wrap64 (((rd_T30 x0 x11).f1) - x281001)) == 0) true (wrap64 (x11 + 1)) x275000 x275001 x281000 x281001 x281002 x281003) else (garmentlaw11_PolygonCorners.l0 k x0 ((wrap64 (((rd_T30 x0 x11).f0) - x281000)) == 0) true ((wrap64 (((rd_T30 x0 x11).f1) - x281001)) == 0) ((wrap64 (((rd_T30 x0 x11).f1) - x281001)) == x281003) (wrap64 (x11 + 1)) x275000 x275001 x281000 x281001 x281002 x281003))) else (if x9 = true then (if x10 = true then (garmentlaw11_PolygonCorners.l0 k x0 ((wrap64 (((rd_T30 x0 x11).f0) - x281000)) == 0) ((wrap64 (((rd_T30 x0 x11).f0) - x281000)) == x281002) true true (wrap64 (x11 + 1)) x275000 x275001 x281000 x281001 x281002 x281003) else (garmentlaw11_PolygonCorners.l0 k x0 ((wrap64 (((rd_T30 x0 x11).f0) - x281000)) == 0) ((wrap64 (((rd_T30 x0 x11).f0) - x281000)) == x281002) true ((wrap64 (((rd_T30 x0 x11).f1) - x281001)) == x281003) (wrap64 (x11 + 1)) x275000 x275001 x281000 x281001 x281002 x281003)) else (if x10 = true then (garmentlaw11_PolygonCorners.l0 k x0 ((wrap64 (((rd_T30 x0 x11).f0) - x281000)) == 0) ((wrap64 (((rd_T30 x0 x11).f0) - x281000)) == x281002) ((wrap64 (((rd_T30 x0 x11).f1) - x281001)) == 0) true (wrap64 (x11 + 1)) x275000 x275001 x281000 x281001 x281002 x281003) else (garmentlaw11_PolygonCorners.l0 k x0 ((wrap64 (((rd_T30 x0 x11).f0) - x281000)) == 0) ((wrap64 (((rd_T30 x0 x11).f0) - x281000)) == x281002) ((wrap64 (((rd_T30 x0 x11).f1) - x281001)) == 0) ((wrap64 (((rd_T30 x0 x11).f1) - x281001)) == x281003) (wrap64 (x11 + 1)) x275000 x275001 x281000 x281001 x281002 x281003))))))))) else (none)) else (none))) else (none)) else ((polygon_Where.f k x0 x275000 x275001).bind fun bt291 => (if x275000 < x281000 then (if x7 = true then (if x8 = true then (if x9 = true then (if x10 = true then (if bt291.2 = 0 then (if bt291.1 = (-1) then ((garmentlaw11_awake.f k).bind fun t293 => (some t293)) else (none)) else (none)) else (none)) else (none)) else (none)) else (none)) else (if x275000 > (wrap64 (x281000 + x281002)) then (if x7 = true then (if x8 = true then (if x9 = true then (if x10 = true then (if bt291.2 = 0 then (if bt291.1 = (-1) then ((garmentlaw11_awake.f k).bind fun t294 => (some t294)) else (none)) else (none)) else (none)) else (none)) else (none)) else (none)) else (if x275001 < x281001 then (if x7 = true then (if x8 = true then (if x9 = true then (if x10 = true then (if bt291.2 = 0 then (if bt291.1 = (-1) then ((garmentlaw11_awake.f k).bind fun t295 => (some t295)) else (none)) else (none)) else (none)) else (none)) else (none)) else (none)) else (if x7 = true then (if x8 = true then (if x9 = true then (if x10 = true then (if bt291.2 = 0 then (if (x275001 > (wrap64 (x281001 + x281003))) then (if bt291.1 = (-1) then ((garmentlaw11_awake.f k).bind fun t296 => (some t296)) else (none)) else ((garmentlaw11_awake.f k).bind fun t297 => (some t297))) else (none)) else (none)) else (none)) else (none)) else (none))))))
end
def garmentlaw11_PolygonCorners.f (k : Nat) (l0 : List (S30)) (a1_0 : Int) (a1_1 : Int) : Option (Bool) := (polygon_Box.f k l0).bind fun bt275 => ((garmentlaw11_few.f l0).bind fun t281 => (if t281 = true then (garmentlaw11_PolygonCorners.j0 k l0 bt275.2.2.2.2 (bt275.2.2.2.2 != 0) a1_0 a1_1 bt275.1 bt275.2.1 bt275.2.2.1 bt275.2.2.2.1) else (garmentlaw11_PolygonCorners.j0 k l0 bt275.2.2.2.2 true a1_0 a1_1 bt275.1 bt275.2.1 bt275.2.2.1 bt275.2.2.2.1)))
theorem garmentlaw11_PolygonCorners.mono_l : ∀ k, (∀ y0 y1 y2 y3 y4 y5 y6 y7 y8, LeO (garmentlaw11_PolygonCorners.j0 k y0 y1 y2 y3 y4 y5 y6 y7 y8) (garmentlaw11_PolygonCorners.j0 (k + 1) y0 y1 y2 y3 y4 y5 y6 y7 y8)) ∧ (∀ y0 y1 y2 y3 y4 y5 y6 y7 y8 y9 y10 y11, LeO (garmentlaw11_PolygonCorners.l0 k y0 y1 y2 y3 y4 y5 y6 y7 y8 y9 y10 y11) (garmentlaw11_PolygonCorners.l0 (k + 1) y0 y1 y2 y3 y4 y5 y6 y7 y8 y9 y10 y11))
 | 0 => ⟨fun _ _ _ _ _ _ _ _ _ r h => by simp [garmentlaw11_PolygonCorners.j0] at h, fun _ _ _ _ _ _ _ _ _ _ _ _ r h => by simp [garmentlaw11_PolygonCorners.l0] at h⟩
 | k + 1 => by
  obtain ⟨ih0, ih1⟩ := garmentlaw11_PolygonCorners.mono_l k
  refine ⟨?_, ?_⟩
  ·intro y0 y1 y2 y3 y4 y5 y6 y7 y8
   unfold garmentlaw11_PolygonCorners.j0
   repeat' first
   | (with_reducible exact ih0 _ _ _ _ _ _ _ _ _)
   | (with_reducible exact ih1 _ _ _ _ _ _ _ _ _ _ _ _)
   | (with_reducible exact garmentlaw11_awake.mono _)
   | (with_reducible exact polygon_Box.mono _ _)
   | (with_reducible exact polygon_Check.mono _ _)
   | (with_reducible exact polygon_Where.mono _ _ _ _)
   | (with_reducible exact LeO.refl _)
   | (with_reducible exact LeO.none _)
   | (with_reducible refine LeO.ite ?_ ?_)
   | (with_reducible refine LeO.bind ?_ (fun _ => ?_))
   | exact ih0 _ _ _ _ _ _ _ _ _
   | exact ih1 _ _ _ _ _ _ _ _ _ _ _ _
   | exact garmentlaw11_awake.mono _
   | exact polygon_Box.mono _ _
   | exact polygon_Check.mono _ _
   | exact polygon_Where.mono _ _ _ _
   | exact LeO.none _
   | refine LeO.ite ?_ ?_
   | refine LeO.bind ?_ (fun _ => ?_)
  ·intro y0 y1 y2 y3 y4 y5 y6 y7 y8 y9 y10 y11
   unfold garmentlaw11_PolygonCorners.l0
   repeat' first
   | (with_reducible exact ih0 _ _ _ _ _ _ _ _ _)
   | (with_reducible exact ih1 _ _ _ _ _ _ _ _ _ _ _ _)
   | (with_reducible exact garmentlaw11_awake.mono _)
   | (with_reducible exact polygon_Box.mono _ _)
   | (with_reducible exact polygon_Check.mono _ _)
   | (with_reducible exact polygon_Where.mono _ _ _ _)
   | (with_reducible exact LeO.refl _)
   | (with_reducible exact LeO.none _)
   | (with_reducible refine LeO.ite ?_ ?_)
   | (with_reducible refine LeO.bind ?_ (fun _ => ?_))
   | exact ih0 _ _ _ _ _ _ _ _ _
   | exact ih1 _ _ _ _ _ _ _ _ _ _ _ _
   | exact garmentlaw11_awake.mono _
   | exact polygon_Box.mono _ _
   | exact polygon_Check.mono _ _
   | exact polygon_Where.mono _ _ _ _
   | exact LeO.none _
   | refine LeO.ite ?_ ?_
   | refine LeO.bind ?_ (fun _ => ?_)
theorem garmentlaw11_PolygonCorners.mono : ∀ a0 a1 a2 k, LeO (garmentlaw11_PolygonCorners.f k a0 a1 a2) (garmentlaw11_PolygonCorners.f (k + 1) a0 a1 a2) := by
 intro a0 a1 a2 k
 obtain ⟨ih0, ih1⟩ := garmentlaw11_PolygonCorners.mono_l k
 unfold garmentlaw11_PolygonCorners.f
 repeat' first
   | (with_reducible exact ih0 _ _ _ _ _ _ _ _ _)
   | (with_reducible exact ih1 _ _ _ _ _ _ _ _ _ _ _ _)
   | (with_reducible exact garmentlaw11_awake.mono _)
   | (with_reducible exact polygon_Box.mono _ _)
   | (with_reducible exact polygon_Check.mono _ _)
   | (with_reducible exact polygon_Where.mono _ _ _ _)
   | (with_reducible exact LeO.refl _)
   | (with_reducible exact LeO.none _)
   | (with_reducible refine LeO.ite ?_ ?_)
   | (with_reducible refine LeO.bind ?_ (fun _ => ?_))
   | exact ih0 _ _ _ _ _ _ _ _ _
   | exact ih1 _ _ _ _ _ _ _ _ _ _ _ _
   | exact garmentlaw11_awake.mono _
   | exact polygon_Box.mono _ _
   | exact polygon_Check.mono _ _
   | exact polygon_Where.mono _ _ _ _
   | exact LeO.none _
   | refine LeO.ite ?_ ?_
   | refine LeO.bind ?_ (fun _ => ?_)
set_option maxHeartbeats 8000000 in
set_option maxRecDepth 100000 in
theorem garmentlaw11_PolygonCorners.calls (k : Nat) (A0 : Option Addr) (c0 : Nat) (l0 : List (S30)) (a1_0 : Int) (a1_1 : Int) (r : Bool) (w : World) (hr0 : Kd.C k30 w A0 l0.length l0) (hc0 : l0.length ≤ c0) (h : garmentlaw11_PolygonCorners.f k l0 a1_0 a1_1 = some r) :
  Calls Try.prog 7 #[.slice A0 l0.length c0, .agg #[.int .i64 a1_0, .int .i64 a1_1]] w fun e w' => e = .returned (.bool r) ∧ Below w.heap.size w w' := by
 have hu30 := Try.underlying30
 have hu41 := Try.underlying41
 have HR0 := Aside0.mk hr0
 have HC0 := Aside0.mk hc0
 clear hr0 hc0
 have HB := Aside0.mk (Below.refl w.heap.size w)
 have H : ((polygon_Box.f k l0).bind fun bt275 => ((garmentlaw11_few.f l0).bind fun t281 => (if t281 = true then (garmentlaw11_PolygonCorners.j0 k l0 bt275.2.2.2.2 (bt275.2.2.2.2 != 0) a1_0 a1_1 bt275.1 bt275.2.1 bt275.2.2.1 bt275.2.2.2.1) else (garmentlaw11_PolygonCorners.j0 k l0 bt275.2.2.2.2 true a1_0 a1_1 bt275.1 bt275.2.1 bt275.2.2.1 bt275.2.2.2.1)))) = some r := h
 clear h
 replace H := Option.bind_eq_some_iff.mp H
 obtain ⟨⟨t275, t276, t277, t278, t279⟩, A30, H⟩ := H
 replace H : ((garmentlaw11_few.f l0).bind fun t281 => (if t281 = true then (garmentlaw11_PolygonCorners.j0 k l0 t279 (t279 != 0) a1_0 a1_1 t275 t276 t277 t278) else (garmentlaw11_PolygonCorners.j0 k l0 t279 true a1_0 a1_1 t275 t276 t277 t278))) = some r := H
 have A3 := Aside0.mk A30
 clear A30
 have HC4 := Aside0.mk H
 clear H
 go_enter Try.func7, Try.ntmps7
 go_upto_region 2 with (first | ((with_reducible refine gate_dst (N := 3) rfl ?_); refine box_event ?hg (N := 3) ?hd (cs := #[.int .i64 a1_0, .int .i64 a1_1]) (t := 30) ?hr ?_; (case hd => rfl); (case hg => rfl); (case hr => first | (go_simp; done) | (go_simp; rfl)); intro gb274 hg w5 hbox hb; have n0_ := Aside0.mk (below_step (by repeat (first | exact HB.out | apply below_alloc | apply pw_below_drewN | apply below_drew1)) hb); have n1_ := Aside0.mk (hbox); have n2_ := Aside0.mk ((by rw [hg]; exact (below_size (by repeat (first | exact HB.out | apply below_alloc | apply pw_below_drewN | apply below_drew1))) : w.heap.size ≤ gb274)); have n3_ := Aside0.mk ((by rw [hg]; exact (below_size (by repeat (first | exact HB.out | apply below_alloc | apply pw_below_drewN | apply below_drew1))) : w.heap.size ≤ gb274)); clear HB; have HB := n0_; have BK274 := n1_; have GW274 := n2_; have GE274 := n3_; clear n0_ n1_ n2_ n3_; clear hb hbox hg) | (go_at_call 24; (with_reducible refine (polygon_Box.calls k _ _ l0 t275 t276 t277 t278 t279 _ ?side1 ?side2 A3.out).mono ?_); (case side1 => repeat (first | exact (Kd.C_below HR0.out HB.out) | (with_reducible refine Kd.C_alloc ?_ _) | (with_reducible refine Kd.C_drewN ?_ _) | (with_reducible refine Kd.C_drew ?_))); (case side2 => exact HC0.out); rintro e w6 ⟨rfl, hb⟩; have n0_ := Aside0.mk (blk_below (g := gb274) (o := .cells #[.int .i64 a1_0, .int .i64 a1_1] 30 (0, 0)) (by (with_reducible repeat (first | refine blk_drewN ?_ _ | refine blk_drew ?_ | refine blk_alloc ?_ _)); exact BK274.out) hb); have n1_ := Aside0.mk (below_step (by repeat (first | exact HB.out | apply below_alloc | apply pw_below_drewN | apply below_drew1 | refine below_set ?_ GE274.out)) hb); clear BK274; clear HB; have BK274 := n0_; have HB := n1_; clear n0_ n1_; (try clear hb); (try clear hb2); (try clear hk); (try clear hi)) | ((with_reducible refine gate_dst (N := 5) rfl ?_); refine box_event ?hg (N := 5) ?hd (cs := #[.int .i64 0, .int .i64 0, .int .i64 0, .int .i64 0]) (t := 41) ?hr ?_; (case hd => rfl); (case hg => rfl); (case hr => first | (go_simp; done) | (go_simp; rfl)); intro gb280 hg w7 hbox hb; have n0_ := Aside0.mk (blk_below (g := gb274) (o := .cells #[.int .i64 a1_0, .int .i64 a1_1] 30 (0, 0)) (by (with_reducible repeat (first | refine blk_drewN ?_ _ | refine blk_drew ?_ | refine blk_alloc ?_ _)); exact BK274.out) hb); have n1_ := Aside0.mk (below_step (by repeat (first | exact HB.out | apply below_alloc | apply pw_below_drewN | apply below_drew1 | refine below_set ?_ GE274.out)) hb); have n2_ := Aside0.mk (hbox); have n3_ := Aside0.mk ((by rw [hg]; exact (below_size (by repeat (first | exact HB.out | apply below_alloc | apply pw_below_drewN | apply below_drew1 | refine below_set ?_ GE274.out))) : w.heap.size ≤ gb280)); have n4_ := Aside0.mk ((by rw [hg]; exact (below_size (by repeat (first | exact HB.out | apply below_alloc | apply pw_below_drewN | apply below_drew1 | refine below_set ?_ GE274.out))) : w.heap.size ≤ gb280)); have n5_ := Aside0.mk ((by rw [hg]; exact Nat.ne_of_lt (blk_lt (g := gb274) (o := .cells #[.int .i64 a1_0, .int .i64 a1_1] 30 (0, 0)) (by (with_reducible repeat (first | refine blk_drewN ?_ _ | refine blk_drew ?_ | refine blk_alloc ?_ _)); exact BK274.out)) : gb274 ≠ gb280)); have n6_ := Aside0.mk ((by rw [hg]; exact Nat.ne_of_gt (blk_lt (g := gb274) (o := .cells #[.int .i64 a1_0, .int .i64 a1_1] 30 (0, 0)) (by (with_reducible repeat (first | refine blk_drewN ?_ _ | refine blk_drew ?_ | refine blk_alloc ?_ _)); exact BK274.out)) : gb280 ≠ gb274)); clear BK274; clear HB; have BK274 := n0_; have HB := n1_; have BK280 := n2_; have GW280 := n3_; have GE280 := n4_; have NB274_280 := n5_; have NB280_274 := n6_; clear n0_ n1_ n2_ n3_ n4_ n5_ n6_; clear hb hbox hg; have hnb8 := NB280_274.out; have hnc8 := NB274_280.out; have hcz9_0 : w7.cell? ⟨gb280, 0, none⟩ = some (.int .i64 0) := (blk_cell BK280.out 0).trans rfl; have hcz9_1 : w7.cell? ⟨gb280, 1, none⟩ = some (.int .i64 0) := (blk_cell BK280.out 1).trans rfl; have hcz9_2 : w7.cell? ⟨gb280, 2, none⟩ = some (.int .i64 0) := (blk_cell BK280.out 2).trans rfl; have hcz9_3 : w7.cell? ⟨gb280, 3, none⟩ = some (.int .i64 0) := (blk_cell BK280.out 3).trans rfl; have hfz9_0 := blk_frozen BK280.out 0; have hfz9_1 := blk_frozen BK280.out 1; have hfz9_2 := blk_frozen BK280.out 2; have hfz9_3 := blk_frozen BK280.out 3))
 repeat (go_quiet (fail); try go_wp2)
 (try simp only [Act.put, List.setIfInBounds_toArray, List.set_cons_zero, List.set_cons_succ])
 go_cut [30] (fun v30 wc => ∃ (kq : Nat) (x30_3 : Bool), v30 = .bool x30_3 ∧ Aside0 (garmentlaw11_PolygonCorners.j0 kq l0 t279 x30_3 a1_0 a1_1 t275 t276 t277 t278 = some r) ∧ Aside0 (kq ≤ k) ∧ Aside0 (wc.heap[gb274]? = some (.cells #[.int .i64 a1_0, .int .i64 a1_1] 30 (0, 0))) ∧ Aside0 (wc.heap[gb280]? = some (.cells #[.int .i64 t275, .int .i64 t276, .int .i64 t277, .int .i64 t278] 41 (0, 0))) ∧ Aside0 (Below w.heap.size w wc))
 case first =>
  have H := HC4.out
  clear HC4
  replace H := Option.bind_eq_some_iff.mp H
  obtain ⟨t281, A100, H⟩ := H
  replace H : (if t281 = true then (garmentlaw11_PolygonCorners.j0 k l0 t279 (t279 != 0) a1_0 a1_1 t275 t276 t277 t278) else (garmentlaw11_PolygonCorners.j0 k l0 t279 true a1_0 a1_1 t275 t276 t277 t278)) = some r := H
  have A10 := Aside0.mk A100
  clear A100
  by_cases c11 : t281 = true
  ·subst c11
   have H1 : (garmentlaw11_PolygonCorners.j0 k l0 t279 (t279 != 0) a1_0 a1_1 t275 t276 t277 t278) = some r := by rw [if_pos rfl] at H; exact H
   clear H
   have H := H1
   clear H1
   as_aux_lemma =>
    have H' := Aside0.mk H
    clear H
    go_wp2_with (first | (go_at_call 12; (with_reducible refine (garmentlaw11_few.calls _ _ l0 true _ ?side1 ?side2 A10.out).mono ?_); (case side1 => exact Kd.C_below HR0.out (by repeat (first | exact HB.out | apply below_alloc | apply pw_below_drewN | apply below_drew1 | refine below_set ?_ GE274.out | refine below_set ?_ GE280.out))); (case side2 => exact HC0.out); rintro e w' ⟨rfl, ⟨nd, rfl⟩⟩; (try first | exact ⟨rfl, _, World.drewN_drewN _ _ _⟩ | exact ⟨rfl, _, Eq.trans (World.drewN_drewN _ _ _) (congrArg (World.drewN _) (Nat.add_assoc _ _ _))⟩)))
    repeat (go_quiet (fail); try go_wp2)
    go_meet
    case rel => exact ⟨_, ((t279 != 0)), (by first | rfl | (simp; done) | (simp [*]; done)), H', ⟨by first | omega | exact Nat.le_refl _⟩, ⟨by (with_reducible repeat (first | refine blk_drewN ?_ _ | refine blk_drew ?_ | refine blk_alloc ?_ _)); refine blk_far ?_ NB274_280.out _; (with_reducible repeat (first | refine blk_drewN ?_ _ | refine blk_drew ?_ | refine blk_alloc ?_ _)); refine blk_far ?_ NB274_280.out _; (with_reducible repeat (first | refine blk_drewN ?_ _ | refine blk_drew ?_ | refine blk_alloc ?_ _)); refine blk_far ?_ NB274_280.out _; (with_reducible repeat (first | refine blk_drewN ?_ _ | refine blk_drew ?_ | refine blk_alloc ?_ _)); refine blk_far ?_ NB274_280.out _; (with_reducible repeat (first | refine blk_drewN ?_ _ | refine blk_drew ?_ | refine blk_alloc ?_ _)); exact BK274.out⟩, ⟨by (with_reducible repeat (first | refine blk_drewN ?_ _ | refine blk_drew ?_ | refine blk_alloc ?_ _)); refine blk_put (cs := #[.int .i64 t275, .int .i64 t276, .int .i64 t277, .int .i64 0]) ?_ 3 _ rfl; (with_reducible repeat (first | refine blk_drewN ?_ _ | refine blk_drew ?_ | refine blk_alloc ?_ _)); refine blk_put (cs := #[.int .i64 t275, .int .i64 t276, .int .i64 0, .int .i64 0]) ?_ 2 _ rfl; (with_reducible repeat (first | refine blk_drewN ?_ _ | refine blk_drew ?_ | refine blk_alloc ?_ _)); refine blk_put (cs := #[.int .i64 t275, .int .i64 0, .int .i64 0, .int .i64 0]) ?_ 1 _ rfl; (with_reducible repeat (first | refine blk_drewN ?_ _ | refine blk_drew ?_ | refine blk_alloc ?_ _)); refine blk_put (cs := #[.int .i64 0, .int .i64 0, .int .i64 0, .int .i64 0]) ?_ 0 _ rfl; (with_reducible repeat (first | refine blk_drewN ?_ _ | refine blk_drew ?_ | refine blk_alloc ?_ _)); exact BK280.out⟩, ⟨by repeat (first | (with_reducible first | exact HB.out | apply below_alloc | apply pw_below_drewN | apply below_drew1 | refine below_set ?_ GE274.out | refine below_set ?_ GE280.out) | exact HB.out)⟩⟩
  ·replace c11 := Bool.eq_false_iff.mpr c11
   subst c11
   have H1 : (garmentlaw11_PolygonCorners.j0 k l0 t279 true a1_0 a1_1 t275 t276 t277 t278) = some r := by rw [if_neg (show ¬ (false = true) by decide)] at H; exact H
   clear H
   have H := H1
   clear H1
   as_aux_lemma =>
    have H' := Aside0.mk H
    clear H
    go_wp2_with (first | (go_at_call 12; (with_reducible refine (garmentlaw11_few.calls _ _ l0 false _ ?side1 ?side2 A10.out).mono ?_); (case side1 => exact Kd.C_below HR0.out (by repeat (first | exact HB.out | apply below_alloc | apply pw_below_drewN | apply below_drew1 | refine below_set ?_ GE274.out | refine below_set ?_ GE280.out))); (case side2 => exact HC0.out); rintro e w' ⟨rfl, ⟨nd, rfl⟩⟩; (try first | exact ⟨rfl, _, World.drewN_drewN _ _ _⟩ | exact ⟨rfl, _, Eq.trans (World.drewN_drewN _ _ _) (congrArg (World.drewN _) (Nat.add_assoc _ _ _))⟩)))
    repeat (go_quiet (fail); try go_wp2)
    go_meet
    case rel => exact ⟨_, (true), (by first | rfl | (simp; done) | (simp [*]; done)), H', ⟨by first | omega | exact Nat.le_refl _⟩, ⟨by (with_reducible repeat (first | refine blk_drewN ?_ _ | refine blk_drew ?_ | refine blk_alloc ?_ _)); refine blk_far ?_ NB274_280.out _; (with_reducible repeat (first | refine blk_drewN ?_ _ | refine blk_drew ?_ | refine blk_alloc ?_ _)); refine blk_far ?_ NB274_280.out _; (with_reducible repeat (first | refine blk_drewN ?_ _ | refine blk_drew ?_ | refine blk_alloc ?_ _)); refine blk_far ?_ NB274_280.out _; (with_reducible repeat (first | refine blk_drewN ?_ _ | refine blk_drew ?_ | refine blk_alloc ?_ _)); refine blk_far ?_ NB274_280.out _; (with_reducible repeat (first | refine blk_drewN ?_ _ | refine blk_drew ?_ | refine blk_alloc ?_ _)); exact BK274.out⟩, ⟨by (with_reducible repeat (first | refine blk_drewN ?_ _ | refine blk_drew ?_ | refine blk_alloc ?_ _)); refine blk_put (cs := #[.int .i64 t275, .int .i64 t276, .int .i64 t277, .int .i64 0]) ?_ 3 _ rfl; (with_reducible repeat (first | refine blk_drewN ?_ _ | refine blk_drew ?_ | refine blk_alloc ?_ _)); refine blk_put (cs := #[.int .i64 t275, .int .i64 t276, .int .i64 0, .int .i64 0]) ?_ 2 _ rfl; (with_reducible repeat (first | refine blk_drewN ?_ _ | refine blk_drew ?_ | refine blk_alloc ?_ _)); refine blk_put (cs := #[.int .i64 t275, .int .i64 0, .int .i64 0, .int .i64 0]) ?_ 1 _ rfl; (with_reducible repeat (first | refine blk_drewN ?_ _ | refine blk_drew ?_ | refine blk_alloc ?_ _)); refine blk_put (cs := #[.int .i64 0, .int .i64 0, .int .i64 0, .int .i64 0]) ?_ 0 _ rfl; (with_reducible repeat (first | refine blk_drewN ?_ _ | refine blk_drew ?_ | refine blk_alloc ?_ _)); exact BK280.out⟩, ⟨by repeat (first | (with_reducible first | exact HB.out | apply below_alloc | apply pw_below_drewN | apply below_drew1 | refine below_set ?_ GE274.out | refine below_set ?_ GE280.out) | exact HB.out)⟩⟩
 case rest =>
  clear HC4
  try clear c1
  try clear p2
  try clear c7
  try clear c8
  try clear c11
  try clear hcz9_0
  try clear hcz9_1
  try clear hcz9_2
  try clear hcz9_3
  try clear hfz9_0
  try clear hfz9_1
  try clear hfz9_2
  try clear hfz9_3
  obtain ⟨kq, x30_3, rfl, HA, HJ3, BK274, BK280, HB⟩ := hcut
  cases kq with
  | zero => exact absurd HA.out (by simp [garmentlaw11_PolygonCorners.j0])
  | succ kj3 =>
   have H := HA.out
   clear HA
   simp only [garmentlaw11_PolygonCorners.j0] at H
   by_cases c12 : x30_3 = true
   ·subst c12
    have H1 : ((garmentlaw11_few.f l0).bind fun t282 => (if t282 = true then ((polygon_Check.f kj3 l0).bind fun t283 => (if t283 = t279 then (if (t275 == 0 && (t276 == 0 && (t277 == 0 && (t278 == 0)))) = true then ((garmentlaw11_awake.f kj3).bind fun t284 => (some t284)) else (none)) else (none))) else ((garmentlaw11_awake.f kj3).bind fun t285 => (some t285)))) = some r := by rw [if_pos rfl] at H; exact H
    clear H
    have H := H1
    clear H1
    replace H := Option.bind_eq_some_iff.mp H
    obtain ⟨t282, A130, H⟩ := H
    replace H : (if t282 = true then ((polygon_Check.f kj3 l0).bind fun t283 => (if t283 = t279 then (if (t275 == 0 && (t276 == 0 && (t277 == 0 && (t278 == 0)))) = true then ((garmentlaw11_awake.f kj3).bind fun t284 => (some t284)) else (none)) else (none))) else ((garmentlaw11_awake.f kj3).bind fun t285 => (some t285))) = some r := H
    have A13 := Aside0.mk A130
    clear A130
    by_cases c14 : t282 = true
    ·subst c14
     have H1 : ((polygon_Check.f kj3 l0).bind fun t283 => (if t283 = t279 then (if (t275 == 0 && (t276 == 0 && (t277 == 0 && (t278 == 0)))) = true then ((garmentlaw11_awake.f kj3).bind fun t284 => (some t284)) else (none)) else (none))) = some r := by rw [if_pos rfl] at H; exact H
     clear H
     have H := H1
     clear H1
     replace H := Option.bind_eq_some_iff.mp H
     obtain ⟨t283, A150, H⟩ := H
     replace H : (if t283 = t279 then (if (t275 == 0 && (t276 == 0 && (t277 == 0 && (t278 == 0)))) = true then ((garmentlaw11_awake.f kj3).bind fun t284 => (some t284)) else (none)) else (none)) = some r := H
     have A15 := Aside0.mk A150
     clear A150
     by_cases c16 : t283 = t279
     ·rw [if_pos c16] at H
      have c16b0 : (t283 == t279) = true := beq_iff_eq.mpr c16
      have c16b1 : (t283 != t279) = false := bne_eq_false_iff_eq.mpr c16
      clear c16
      by_cases c17 : (t275 == 0 && (t276 == 0 && (t277 == 0 && (t278 == 0)))) = true
      ·rw [if_pos c17] at H
       have c17b0 : (t275 == 0 && (t276 == 0 && (t277 == 0 && (t278 == 0)))) = true := c17
       (try (have c17b1 : decide (t275 = 0 && (t276 == 0 && (t277 == 0 && (t278 == 0)))) = true := by simpa using c17))
       (try (have c17b2 : (t275 == 0 && (t276 == 0 && (t277 == 0 && (t278 == 0)))) = true := by simpa using c17))
       clear c17
       replace H := Option.bind_eq_some_iff.mp H
       obtain ⟨t284, A180, H⟩ := H
       replace H : (some t284) = some r := H
       have A18 := Aside0.mk A180
       clear A180
       as_aux_lemma =>
        obtain rfl := Option.some.inj H
        go_wp2_with (first | (go_at_call 12; (with_reducible refine (garmentlaw11_few.calls _ _ l0 true _ ?side1 ?side2 A13.out).mono ?_); (case side1 => repeat (first | exact (Kd.C_below HR0.out HB.out) | (with_reducible refine Kd.C_alloc ?_ _) | (with_reducible refine Kd.C_drewN ?_ _) | (with_reducible refine Kd.C_drew ?_))); (case side2 => exact HC0.out); rintro e w' ⟨rfl, ⟨nd, rfl⟩⟩; (try first | exact ⟨rfl, _, World.drewN_drewN _ _ _⟩ | exact ⟨rfl, _, Eq.trans (World.drewN_drewN _ _ _) (congrArg (World.drewN _) (Nat.add_assoc _ _ _))⟩)) | (go_at_call 20; (with_reducible refine (polygon_Check.calls kj3 _ _ l0 t283 _ ?side1 ?side2 A15.out).mono ?_); (case side1 => repeat (first | exact (Kd.C_below HR0.out (by repeat (first | exact HB.out | apply below_alloc | apply pw_below_drewN | apply below_drew1 | refine below_set ?_ GE274.out | refine below_set ?_ GE280.out))) | (with_reducible refine Kd.C_alloc ?_ _) | (with_reducible refine Kd.C_drewN ?_ _) | (with_reducible refine Kd.C_drew ?_))); (case side2 => exact HC0.out); rintro e w19 ⟨rfl, hb⟩; have n0_ := Aside0.mk (blk_below (g := gb274) (o := .cells #[.int .i64 a1_0, .int .i64 a1_1] 30 (0, 0)) (by (with_reducible repeat (first | refine blk_drewN ?_ _ | refine blk_drew ?_ | refine blk_alloc ?_ _)); exact BK274.out) hb); have n1_ := Aside0.mk (blk_below (g := gb280) (o := .cells #[.int .i64 t275, .int .i64 t276, .int .i64 t277, .int .i64 t278] 41 (0, 0)) (by (with_reducible repeat (first | refine blk_drewN ?_ _ | refine blk_drew ?_ | refine blk_alloc ?_ _)); exact BK280.out) hb); have n2_ := Aside0.mk (below_step (by repeat (first | exact HB.out | apply below_alloc | apply pw_below_drewN | apply below_drew1 | refine below_set ?_ GE274.out | refine below_set ?_ GE280.out)) hb); clear BK274; clear BK280; clear HB; have BK274 := n0_; have BK280 := n1_; have HB := n2_; clear n0_ n1_ n2_; (try clear hb); (try clear hb2); (try clear hk); (try clear hi); have hnb20 := NB280_274.out; have hnc20 := NB274_280.out; have hcz21_0 : w19.cell? ⟨gb280, 0, none⟩ = some (.int .i64 t275) := (blk_cell BK280.out 0).trans rfl; have hcz21_1 : w19.cell? ⟨gb280, 1, none⟩ = some (.int .i64 t276) := (blk_cell BK280.out 1).trans rfl; have hcz21_2 : w19.cell? ⟨gb280, 2, none⟩ = some (.int .i64 t277) := (blk_cell BK280.out 2).trans rfl; have hcz21_3 : w19.cell? ⟨gb280, 3, none⟩ = some (.int .i64 t278) := (blk_cell BK280.out 3).trans rfl; have hfz21_0 := blk_frozen BK280.out 0; have hfz21_1 := blk_frozen BK280.out 1; have hfz21_2 := blk_frozen BK280.out 2; have hfz21_3 := blk_frozen BK280.out 3) | (go_at_call 13; (with_reducible refine (garmentlaw11_awake.calls kj3  t284 _ A18.out).mono ?_); rintro e w22 ⟨rfl, hb⟩; have n0_ := Aside0.mk (blk_below (g := gb274) (o := .cells #[.int .i64 a1_0, .int .i64 a1_1] 30 (0, 0)) (by (with_reducible repeat (first | refine blk_drewN ?_ _ | refine blk_drew ?_ | refine blk_alloc ?_ _)); exact BK274.out) hb); have n1_ := Aside0.mk (blk_below (g := gb280) (o := .cells #[.int .i64 t275, .int .i64 t276, .int .i64 t277, .int .i64 t278] 41 (0, 0)) (by (with_reducible repeat (first | refine blk_drewN ?_ _ | refine blk_drew ?_ | refine blk_alloc ?_ _)); exact BK280.out) hb); have n2_ := Aside0.mk (below_step (by repeat (first | exact HB.out | apply below_alloc | apply pw_below_drewN | apply below_drew1 | refine below_set ?_ GE274.out | refine below_set ?_ GE280.out)) hb); clear BK274; clear BK280; clear HB; have BK274 := n0_; have BK280 := n1_; have HB := n2_; clear n0_ n1_ n2_; (try clear hb); (try clear hb2); (try clear hk); (try clear hi)))
        repeat (go_quiet (fail); try go_wp2)
        go_ret
        exact ⟨by first | rfl | (simp [errW_none, errW_some] <;> rfl) | (simp [*, errW_none, errW_some] <;> rfl), by repeat (first | (with_reducible first | exact HB.out | apply below_alloc | apply pw_below_drewN | apply below_drew1 | refine below_set ?_ GE274.out | refine below_set ?_ GE280.out) | exact HB.out)⟩
      ·rw [if_neg c17] at H
       exact absurd H (by simp)
     ·rw [if_neg c16] at H
      exact absurd H (by simp)
    ·replace c14 := Bool.eq_false_iff.mpr c14
     subst c14
     have H1 : ((garmentlaw11_awake.f kj3).bind fun t285 => (some t285)) = some r := by rw [if_neg (show ¬ (false = true) by decide)] at H; exact H
     clear H
     have H := H1
     clear H1
     replace H := Option.bind_eq_some_iff.mp H
     obtain ⟨t285, A230, H⟩ := H
     replace H : (some t285) = some r := H
     have A23 := Aside0.mk A230
     clear A230
     as_aux_lemma =>
      obtain rfl := Option.some.inj H
      go_wp2_with (first | (go_at_call 12; (with_reducible refine (garmentlaw11_few.calls _ _ l0 false _ ?side1 ?side2 A13.out).mono ?_); (case side1 => repeat (first | exact (Kd.C_below HR0.out HB.out) | (with_reducible refine Kd.C_alloc ?_ _) | (with_reducible refine Kd.C_drewN ?_ _) | (with_reducible refine Kd.C_drew ?_))); (case side2 => exact HC0.out); rintro e w' ⟨rfl, ⟨nd, rfl⟩⟩; (try first | exact ⟨rfl, _, World.drewN_drewN _ _ _⟩ | exact ⟨rfl, _, Eq.trans (World.drewN_drewN _ _ _) (congrArg (World.drewN _) (Nat.add_assoc _ _ _))⟩)) | (go_at_call 13; (with_reducible refine (garmentlaw11_awake.calls kj3  t285 _ A23.out).mono ?_); rintro e w24 ⟨rfl, hb⟩; have n0_ := Aside0.mk (blk_below (g := gb274) (o := .cells #[.int .i64 a1_0, .int .i64 a1_1] 30 (0, 0)) (by (with_reducible repeat (first | refine blk_drewN ?_ _ | refine blk_drew ?_ | refine blk_alloc ?_ _)); exact BK274.out) hb); have n1_ := Aside0.mk (blk_below (g := gb280) (o := .cells #[.int .i64 t275, .int .i64 t276, .int .i64 t277, .int .i64 t278] 41 (0, 0)) (by (with_reducible repeat (first | refine blk_drewN ?_ _ | refine blk_drew ?_ | refine blk_alloc ?_ _)); exact BK280.out) hb); have n2_ := Aside0.mk (below_step (by repeat (first | exact HB.out | apply below_alloc | apply pw_below_drewN | apply below_drew1 | refine below_set ?_ GE274.out | refine below_set ?_ GE280.out)) hb); clear BK274; clear BK280; clear HB; have BK274 := n0_; have BK280 := n1_; have HB := n2_; clear n0_ n1_ n2_; (try clear hb); (try clear hb2); (try clear hk); (try clear hi)))
      repeat (go_quiet (fail); try go_wp2)
      go_ret
      exact ⟨by first | rfl | (simp [errW_none, errW_some] <;> rfl) | (simp [*, errW_none, errW_some] <;> rfl), by repeat (first | (with_reducible first | exact HB.out | apply below_alloc | apply pw_below_drewN | apply below_drew1 | refine below_set ?_ GE274.out | refine below_set ?_ GE280.out) | exact HB.out)⟩
   ·replace c12 := Bool.eq_false_iff.mpr c12
    subst c12
    have H1 : (garmentlaw11_PolygonCorners.l0 kj3 l0 false false false false 0 a1_0 a1_1 t275 t276 t277 t278) = some r := by rw [if_neg (show ¬ (false = true) by decide)] at H; exact H
    clear H
    have H := H1
    clear H1
    have H' := Aside0.mk H
    clear H
    go_wp2
    repeat (go_quiet (fail); try go_wp2)
    go_loopg [7, 8, 9, 10, 11] kj3 (fun kq v7 v8 v9 v10 v11 w' => ∃ (x7_2 : Bool) (x8_2 : Bool) (x9_2 : Bool) (x10_2 : Bool) (x11_2 : Int), v7 = .bool x7_2 ∧ v8 = .bool x8_2 ∧ v9 = .bool x9_2 ∧ v10 = .bool x10_2 ∧ v11 = .int .i64 x11_2 ∧ Aside0 (garmentlaw11_PolygonCorners.l0 kq l0 x7_2 x8_2 x9_2 x10_2 x11_2 a1_0 a1_1 t275 t276 t277 t278 = some r) ∧ Aside0 (kq ≤ kj3) ∧ Aside0 (w'.heap[gb274]? = some (.cells #[.int .i64 a1_0, .int .i64 a1_1] 30 (0, 0))) ∧ Aside0 (w'.heap[gb280]? = some (.cells #[.int .i64 t275, .int .i64 t276, .int .i64 t277, .int .i64 t278] 41 (0, 0))) ∧ Aside0 (Below w.heap.size w w'))
    case atStart => exact ⟨(false), (false), (false), (false), (0), (by first | rfl | (simp; done) | (simp [*]; done)), (by first | rfl | (simp; done) | (simp [*]; done)), (by first | rfl | (simp; done) | (simp [*]; done)), (by first | rfl | (simp; done) | (simp [*]; done)), (by first | rfl | (simp; done) | (simp [*]; done)), H', ⟨Nat.le_refl _⟩, ⟨by (with_reducible repeat (first | refine blk_drewN ?_ _ | refine blk_drew ?_ | refine blk_alloc ?_ _)); exact BK274.out⟩, ⟨by (with_reducible repeat (first | refine blk_drewN ?_ _ | refine blk_drew ?_ | refine blk_alloc ?_ _)); exact BK280.out⟩, ⟨by repeat (first | (with_reducible first | exact HB.out | apply below_alloc | apply pw_below_drewN | apply below_drew1 | refine below_set ?_ GE274.out | refine below_set ?_ GE280.out) | exact HB.out)⟩⟩
    case round =>
     clear H'
     try clear c1
     try clear c2
     try clear p2
     try clear c7
     try clear c8
     try clear c11
     try clear c12
     try clear c14
     try clear c16
     try clear c16b0
     try clear c16b1
     try clear c17
     try clear c17b0
     try clear c17b1
     try clear c17b2
     try clear c20
     try clear hcz21_0
     try clear hcz21_1
     try clear hcz21_2
     try clear hcz21_3
     try clear hcz9_0
     try clear hcz9_1
     try clear hcz9_2
     try clear hcz9_3
     try clear hfz21_0
     try clear hfz21_1
     try clear hfz21_2
     try clear hfz21_3
     try clear hfz9_0
     try clear hfz9_1
     try clear hfz9_2
     try clear hfz9_3
     try clear p2
     obtain ⟨x7_2, x8_2, x9_2, x10_2, x11_2, rfl, rfl, rfl, rfl, rfl, HA, HK2, BK274, BK280, HB⟩ := hrel
     cases gk with
     | zero => exact absurd HA.out (by simp [garmentlaw11_PolygonCorners.l0])
     | succ k2 =>
      have H := HA.out
      clear HA
      simp only [garmentlaw11_PolygonCorners.l0] at H
      by_cases c25 : x11_2 < (l0.length : Int)
      ·rw [if_pos c25] at H
       have c25b0 : decide (x11_2 < (l0.length : Int)) = true := decide_eq_true c25
       clear c25
       by_cases c26 : 0 ≤ x11_2
       ·rw [if_pos c26] at H
        have c26b0 : decide (0 ≤ x11_2) = true := decide_eq_true c26
        clear c26
        replace H := Option.bind_eq_some_iff.mp H
        obtain ⟨⟨t287, t288⟩, A270, H⟩ := H
        replace H : (if t287 = 0 then (if t288 = 0 then (if (wrap64 (((rd_T30 l0 x11_2).f0) - t275)) < 0 then (none) else (if (wrap64 (((rd_T30 l0 x11_2).f0) - t275)) > t277 then (none) else (if (wrap64 (((rd_T30 l0 x11_2).f1) - t276)) < 0 then (none) else (if (wrap64 (((rd_T30 l0 x11_2).f1) - t276)) > t278 then (none) else (if x7_2 = true then (if x8_2 = true then (if x9_2 = true then (if x10_2 = true then (garmentlaw11_PolygonCorners.l0 k2 l0 true true true true (wrap64 (x11_2 + 1)) a1_0 a1_1 t275 t276 t277 t278) else (garmentlaw11_PolygonCorners.l0 k2 l0 true true true ((wrap64 (((rd_T30 l0 x11_2).f1) - t276)) == t278) (wrap64 (x11_2 + 1)) a1_0 a1_1 t275 t276 t277 t278)) else (if x10_2 = true then (garmentlaw11_PolygonCorners.l0 k2 l0 true true ((wrap64 (((rd_T30 l0 x11_2).f1) - t276)) == 0) true (wrap64 (x11_2 + 1)) a1_0 a1_1 t275 t276 t277 t278) else (garmentlaw11_PolygonCorners.l0 k2 l0 true true ((wrap64 (((rd_T30 l0 x11_2).f1) - t276)) == 0) ((wrap64 (((rd_T30 l0 x11_2).f1) - t276)) == t278) (wrap64 (x11_2 + 1)) a1_0 a1_1 t275 t276 t277 t278))) else (if x9_2 = true then (if x10_2 = true then (garmentlaw11_PolygonCorners.l0 k2 l0 true ((wrap64 (((rd_T30 l0 x11_2).f0) - t275)) == t277) true true (wrap64 (x11_2 + 1)) a1_0 a1_1 t275 t276 t277 t278) else (garmentlaw11_PolygonCorners.l0 k2 l0 true ((wrap64 (((rd_T30 l0 x11_2).f0) - t275)) == t277) true ((wrap64 (((rd_T30 l0 x11_2).f1) - t276)) == t278) (wrap64 (x11_2 + 1)) a1_0 a1_1 t275 t276 t277 t278)) else (if x10_2 = true then (garmentlaw11_PolygonCorners.l0 k2 l0 true ((wrap64 (((rd_T30 l0 x11_2).f0) - t275)) == t277) ((wrap64 (((rd_T30 l0 x11_2).f1) - t276)) == 0) true (wrap64 (x11_2 + 1)) a1_0 a1_1 t275 t276 t277 t278) else (garmentlaw11_PolygonCorners.l0 k2 l0 true ((wrap64 (((rd_T30 l0 x11_2).f0) - t275)) == t277) ((wrap64 (((rd_T30 l0 x11_2).f1) - t276)) == 0) ((wrap64 (((rd_T30 l0 x11_2).f1) - t276)) == t278) (wrap64 (x11_2 + 1)) a1_0 a1_1 t275 t276 t277 t278)))) else (if x8_2 = true then (if x9_2 = true then (if x10_2 = true then (garmentlaw11_PolygonCorners.l0 k2 l0 ((wrap64 (((rd_T30 l0 x11_2).f0) - t275)) == 0) true true true (wrap64 (x11_2 + 1)) a1_0 a1_1 t275 t276 t277 t278) else (garmentlaw11_PolygonCorners.l0 k2 l0 ((wrap64 (((rd_T30 l0 x11_2).f0) - t275)) == 0) true true ((wrap64 (((rd_T30 l0 x11_2).f1) - t276)) == t278) (wrap64 (x11_2 + 1)) a1_0 a1_1 t275 t276 t277 t278)) else (if x10_2 = true then (garmentlaw11_PolygonCorners.l0 k2 l0 ((wrap64 (((rd_T30 l0 x11_2).f0) - t275)) == 0) true ((wrap64 (((rd_T30 l0 x11_2).f1) - t276)) == 0) true (wrap64 (x11_2 + 1)) a1_0 a1_1 t275 t276 t277 t278) else (garmentlaw11_PolygonCorners.l0 k2 l0 ((wrap64 (((rd_T30 l0 x11_2).f0) - t275)) == 0) true ((wrap64 (((rd_T30 l0 x11_2).f1) - t276)) == 0) ((wrap64 (((rd_T30 l0 x11_2).f1) - t276)) == t278) (wrap64 (x11_2 + 1)) a1_0 a1_1 t275 t276 t277 t278))) else (if x9_2 = true then (if x10_2 = true then (garmentlaw11_PolygonCorners.l0 k2 l0 ((wrap64 (((rd_T30 l0 x11_2).f0) - t275)) == 0) ((wrap64 (((rd_T30 l0 x11_2).f0) - t275)) == t277) true true (wrap64 (x11_2 + 1)) a1_0 a1_1 t275 t276 t277 t278) else (garmentlaw11_PolygonCorners.l0 k2 l0 ((wrap64 (((rd_T30 l0 x11_2).f0) - t275)) == 0) ((wrap64 (((rd_T30 l0 x11_2).f0) - t275)) == t277) true ((wrap64 (((rd_T30 l0 x11_2).f1) - t276)) == t278) (wrap64 (x11_2 + 1)) a1_0 a1_1 t275 t276 t277 t278)) else (if x10_2 = true then (garmentlaw11_PolygonCorners.l0 k2 l0 ((wrap64 (((rd_T30 l0 x11_2).f0) - t275)) == 0) ((wrap64 (((rd_T30 l0 x11_2).f0) - t275)) == t277) ((wrap64 (((rd_T30 l0 x11_2).f1) - t276)) == 0) true (wrap64 (x11_2 + 1)) a1_0 a1_1 t275 t276 t277 t278) else (garmentlaw11_PolygonCorners.l0 k2 l0 ((wrap64 (((rd_T30 l0 x11_2).f0) - t275)) == 0) ((wrap64 (((rd_T30 l0 x11_2).f0) - t275)) == t277) ((wrap64 (((rd_T30 l0 x11_2).f1) - t276)) == 0) ((wrap64 (((rd_T30 l0 x11_2).f1) - t276)) == t278) (wrap64 (x11_2 + 1)) a1_0 a1_1 t275 t276 t277 t278))))))))) else (none)) else (none)) = some r := H
        have A27 := Aside0.mk A270
        clear A270
        by_cases c28 : t287 = 0
        ·rw [if_pos c28] at H
         have c28b0 : (t287 == 0) = true := beq_iff_eq.mpr c28
         have c28b1 : (t287 != 0) = false := bne_eq_false_iff_eq.mpr c28
         clear c28
         by_cases c29 : t288 = 0
         ·rw [if_pos c29] at H
          have c29b0 : (t288 == 0) = true := beq_iff_eq.mpr c29
          have c29b1 : (t288 != 0) = false := bne_eq_false_iff_eq.mpr c29
          clear c29
          by_cases c30 : (wrap64 (((rd_T30 l0 x11_2).f0) - t275)) < 0
          ·rw [if_pos c30] at H
           exact absurd H (by simp)
          ·rw [if_neg c30] at H
           have c30b0 : decide ((wrap64 (((rd_T30 l0 x11_2).f0) - t275)) < 0) = false := decide_eq_false c30
           clear c30
           by_cases c31 : (wrap64 (((rd_T30 l0 x11_2).f0) - t275)) > t277
           ·rw [if_pos c31] at H
            exact absurd H (by simp)
           ·rw [if_neg c31] at H
            have c31b0 : decide (t277 < (wrap64 (((rd_T30 l0 x11_2).f0) - t275))) = false := decide_eq_false c31
            clear c31
            by_cases c32 : (wrap64 (((rd_T30 l0 x11_2).f1) - t276)) < 0
            ·rw [if_pos c32] at H
             exact absurd H (by simp)
            ·rw [if_neg c32] at H
             have c32b0 : decide ((wrap64 (((rd_T30 l0 x11_2).f1) - t276)) < 0) = false := decide_eq_false c32
             clear c32
             by_cases c33 : (wrap64 (((rd_T30 l0 x11_2).f1) - t276)) > t278
             ·rw [if_pos c33] at H
              exact absurd H (by simp)
             ·rw [if_neg c33] at H
              have c33b0 : decide (t278 < (wrap64 (((rd_T30 l0 x11_2).f1) - t276))) = false := decide_eq_false c33
              clear c33
              by_cases c34 : x7_2 = true
              ·subst c34
               have H1 : (if x8_2 = true then (if x9_2 = true then (if x10_2 = true then (garmentlaw11_PolygonCorners.l0 k2 l0 true true true true (wrap64 (x11_2 + 1)) a1_0 a1_1 t275 t276 t277 t278) else (garmentlaw11_PolygonCorners.l0 k2 l0 true true true ((wrap64 (((rd_T30 l0 x11_2).f1) - t276)) == t278) (wrap64 (x11_2 + 1)) a1_0 a1_1 t275 t276 t277 t278)) else (if x10_2 = true then (garmentlaw11_PolygonCorners.l0 k2 l0 true true ((wrap64 (((rd_T30 l0 x11_2).f1) - t276)) == 0) true (wrap64 (x11_2 + 1)) a1_0 a1_1 t275 t276 t277 t278) else (garmentlaw11_PolygonCorners.l0 k2 l0 true true ((wrap64 (((rd_T30 l0 x11_2).f1) - t276)) == 0) ((wrap64 (((rd_T30 l0 x11_2).f1) - t276)) == t278) (wrap64 (x11_2 + 1)) a1_0 a1_1 t275 t276 t277 t278))) else (if x9_2 = true then (if x10_2 = true then (garmentlaw11_PolygonCorners.l0 k2 l0 true ((wrap64 (((rd_T30 l0 x11_2).f0) - t275)) == t277) true true (wrap64 (x11_2 + 1)) a1_0 a1_1 t275 t276 t277 t278) else (garmentlaw11_PolygonCorners.l0 k2 l0 true ((wrap64 (((rd_T30 l0 x11_2).f0) - t275)) == t277) true ((wrap64 (((rd_T30 l0 x11_2).f1) - t276)) == t278) (wrap64 (x11_2 + 1)) a1_0 a1_1 t275 t276 t277 t278)) else (if x10_2 = true then (garmentlaw11_PolygonCorners.l0 k2 l0 true ((wrap64 (((rd_T30 l0 x11_2).f0) - t275)) == t277) ((wrap64 (((rd_T30 l0 x11_2).f1) - t276)) == 0) true (wrap64 (x11_2 + 1)) a1_0 a1_1 t275 t276 t277 t278) else (garmentlaw11_PolygonCorners.l0 k2 l0 true ((wrap64 (((rd_T30 l0 x11_2).f0) - t275)) == t277) ((wrap64 (((rd_T30 l0 x11_2).f1) - t276)) == 0) ((wrap64 (((rd_T30 l0 x11_2).f1) - t276)) == t278) (wrap64 (x11_2 + 1)) a1_0 a1_1 t275 t276 t277 t278)))) = some r := by rw [if_pos rfl] at H; exact H
               clear H
               have H := H1
               clear H1
               by_cases c35 : x8_2 = true
               ·subst c35
                have H1 : (if x9_2 = true then (if x10_2 = true then (garmentlaw11_PolygonCorners.l0 k2 l0 true true true true (wrap64 (x11_2 + 1)) a1_0 a1_1 t275 t276 t277 t278) else (garmentlaw11_PolygonCorners.l0 k2 l0 true true true ((wrap64 (((rd_T30 l0 x11_2).f1) - t276)) == t278) (wrap64 (x11_2 + 1)) a1_0 a1_1 t275 t276 t277 t278)) else (if x10_2 = true then (garmentlaw11_PolygonCorners.l0 k2 l0 true true ((wrap64 (((rd_T30 l0 x11_2).f1) - t276)) == 0) true (wrap64 (x11_2 + 1)) a1_0 a1_1 t275 t276 t277 t278) else (garmentlaw11_PolygonCorners.l0 k2 l0 true true ((wrap64 (((rd_T30 l0 x11_2).f1) - t276)) == 0) ((wrap64 (((rd_T30 l0 x11_2).f1) - t276)) == t278) (wrap64 (x11_2 + 1)) a1_0 a1_1 t275 t276 t277 t278))) = some r := by rw [if_pos rfl] at H; exact H
                clear H
                have H := H1
                clear H1
                by_cases c36 : x9_2 = true
                ·subst c36
                 have H1 : (if x10_2 = true then (garmentlaw11_PolygonCorners.l0 k2 l0 true true true true (wrap64 (x11_2 + 1)) a1_0 a1_1 t275 t276 t277 t278) else (garmentlaw11_PolygonCorners.l0 k2 l0 true true true ((wrap64 (((rd_T30 l0 x11_2).f1) - t276)) == t278) (wrap64 (x11_2 + 1)) a1_0 a1_1 t275 t276 t277 t278)) = some r := by rw [if_pos rfl] at H; exact H
                 clear H
                 have H := H1
                 clear H1
                 by_cases c37 : x10_2 = true
                 ·subst c37
                  have H1 : (garmentlaw11_PolygonCorners.l0 k2 l0 true true true true (wrap64 (x11_2 + 1)) a1_0 a1_1 t275 t276 t277 t278) = some r := by rw [if_pos rfl] at H; exact H
                  clear H
                  have H := H1
                  clear H1
                  as_aux_lemma =>
                   have H' := Aside0.mk H
                   clear H
                   have p286 : 0 ≤ (x11_2 : Int) := of_decide_eq_true (by first | (with_reducible assumption) | assumption)
                   have q286 : x11_2 < (l0.length : Int) := of_decide_eq_true (by first | (with_reducible assumption) | assumption)
                   obtain ⟨ad286, e286, hx286_0, hx286_1⟩ := at_T30 HR0.out x11_2 p286 q286
                   cases e286
                   replace hx286_0 := (HB.out.cell (World.block_lt_of_cell? w _ hx286_0)).trans hx286_0
                   replace hx286_1 := (HB.out.cell (World.block_lt_of_cell? w _ hx286_1)).trans hx286_1
                   replace p286 := eq_true p286
                   replace q286 := eq_true q286
                   go_wp2_with (first | (go_at_call 17; (with_reducible refine (polygon_Where.calls k2 _ _ l0 ((rd_T30 l0 x11_2).f0) ((rd_T30 l0 x11_2).f1) t287 t288 _ ?side1 ?side2 A27.out).mono ?_); (case side1 => repeat (first | exact (Kd.C_below HR0.out HB.out) | (with_reducible refine Kd.C_alloc ?_ _) | (with_reducible refine Kd.C_drewN ?_ _) | (with_reducible refine Kd.C_drew ?_))); (case side2 => exact HC0.out); rintro e w38 ⟨rfl, hb⟩; have n0_ := Aside0.mk (blk_below (g := gb274) (o := .cells #[.int .i64 a1_0, .int .i64 a1_1] 30 (0, 0)) (by (with_reducible repeat (first | refine blk_drewN ?_ _ | refine blk_drew ?_ | refine blk_alloc ?_ _)); exact BK274.out) hb); have n1_ := Aside0.mk (blk_below (g := gb280) (o := .cells #[.int .i64 t275, .int .i64 t276, .int .i64 t277, .int .i64 t278] 41 (0, 0)) (by (with_reducible repeat (first | refine blk_drewN ?_ _ | refine blk_drew ?_ | refine blk_alloc ?_ _)); exact BK280.out) hb); have n2_ := Aside0.mk (below_step (by repeat (first | exact HB.out | apply below_alloc | apply pw_below_drewN | apply below_drew1 | refine below_set ?_ GE274.out | refine below_set ?_ GE280.out)) hb); clear BK274; clear BK280; clear HB; have BK274 := n0_; have BK280 := n1_; have HB := n2_; clear n0_ n1_ n2_; (try clear hb); (try clear hb2); (try clear hk); (try clear hi); have p289 : 0 ≤ (x11_2 : Int) := of_decide_eq_true (by first | (with_reducible assumption) | assumption); have q289 : x11_2 < (l0.length : Int) := of_decide_eq_true (by first | (with_reducible assumption) | assumption); obtain ⟨ad289, e289, hx289_0, hx289_1⟩ := at_T30 HR0.out x11_2 p289 q289; obtain rfl : ad286 = ad289 := (by injection e289); replace hx289_0 := (HB.out.cell (World.block_lt_of_cell? w _ hx289_0)).trans hx289_0; replace hx289_1 := (HB.out.cell (World.block_lt_of_cell? w _ hx289_1)).trans hx289_1; replace p289 := eq_true p289; replace q289 := eq_true q289; have hnb39 := NB280_274.out; have hnc39 := NB274_280.out; have hcz40_0 : w38.cell? ⟨gb280, 0, none⟩ = some (.int .i64 t275) := (blk_cell BK280.out 0).trans rfl; have hcz40_1 : w38.cell? ⟨gb280, 1, none⟩ = some (.int .i64 t276) := (blk_cell BK280.out 1).trans rfl; have hcz40_2 : w38.cell? ⟨gb280, 2, none⟩ = some (.int .i64 t277) := (blk_cell BK280.out 2).trans rfl; have hcz40_3 : w38.cell? ⟨gb280, 3, none⟩ = some (.int .i64 t278) := (blk_cell BK280.out 3).trans rfl; have hfz40_0 := blk_frozen BK280.out 0; have hfz40_1 := blk_frozen BK280.out 1; have hfz40_2 := blk_frozen BK280.out 2; have hfz40_3 := blk_frozen BK280.out 3; have p290 : 0 ≤ (x11_2 : Int) := of_decide_eq_true (by first | (with_reducible assumption) | assumption); have q290 : x11_2 < (l0.length : Int) := of_decide_eq_true (by first | (with_reducible assumption) | assumption); obtain ⟨ad290, e290, hx290_0, hx290_1⟩ := at_T30 HR0.out x11_2 p290 q290; obtain rfl : ad286 = ad290 := (by injection e290); replace hx290_0 := (HB.out.cell (World.block_lt_of_cell? w _ hx290_0)).trans hx290_0; replace hx290_1 := (HB.out.cell (World.block_lt_of_cell? w _ hx290_1)).trans hx290_1; replace p290 := eq_true p290; replace q290 := eq_true q290))
                   repeat (go_quiet (fail); try go_wp2)
                   go_roundg k2
                   case measure => have := HJ3.out; have := HK2.out; omega
                   case rel => exact ⟨(true), (true), (true), (true), (wrap64 (x11_2 + 1)), (by first | rfl | (simp; done) | (simp [*]; done)), (by first | rfl | (simp; done) | (simp [*]; done)), (by first | rfl | (simp; done) | (simp [*]; done)), (by first | rfl | (simp; done) | (simp [*]; done)), (by first | rfl | (simp; done) | (simp [*]; done)), H', ⟨by have := HJ3.out; have := HK2.out; omega⟩, ⟨by (with_reducible repeat (first | refine blk_drewN ?_ _ | refine blk_drew ?_ | refine blk_alloc ?_ _)); exact BK274.out⟩, ⟨by (with_reducible repeat (first | refine blk_drewN ?_ _ | refine blk_drew ?_ | refine blk_alloc ?_ _)); exact BK280.out⟩, ⟨by repeat (first | (with_reducible first | exact HB.out | apply below_alloc | apply pw_below_drewN | apply below_drew1 | refine below_set ?_ GE274.out | refine below_set ?_ GE280.out) | exact HB.out)⟩⟩
                 ·replace c37 := Bool.eq_false_iff.mpr c37
                  subst c37
                  have H1 : (garmentlaw11_PolygonCorners.l0 k2 l0 true true true ((wrap64 (((rd_T30 l0 x11_2).f1) - t276)) == t278) (wrap64 (x11_2 + 1)) a1_0 a1_1 t275 t276 t277 t278) = some r := by rw [if_neg (show ¬ (false = true) by decide)] at H; exact H
                  clear H
                  have H := H1
                  clear H1
                  as_aux_lemma =>
                   have H' := Aside0.mk H
                   clear H
                   have p286 : 0 ≤ (x11_2 : Int) := of_decide_eq_true (by first | (with_reducible assumption) | assumption)
                   have q286 : x11_2 < (l0.length : Int) := of_decide_eq_true (by first | (with_reducible assumption) | assumption)
                   obtain ⟨ad286, e286, hx286_0, hx286_1⟩ := at_T30 HR0.out x11_2 p286 q286
                   cases e286
                   replace hx286_0 := (HB.out.cell (World.block_lt_of_cell? w _ hx286_0)).trans hx286_0
                   replace hx286_1 := (HB.out.cell (World.block_lt_of_cell? w _ hx286_1)).trans hx286_1
                   replace p286 := eq_true p286
                   replace q286 := eq_true q286
                   go_wp2_with (first | (go_at_call 17; (with_reducible refine (polygon_Where.calls k2 _ _ l0 ((rd_T30 l0 x11_2).f0) ((rd_T30 l0 x11_2).f1) t287 t288 _ ?side1 ?side2 A27.out).mono ?_); (case side1 => repeat (first | exact (Kd.C_below HR0.out HB.out) | (with_reducible refine Kd.C_alloc ?_ _) | (with_reducible refine Kd.C_drewN ?_ _) | (with_reducible refine Kd.C_drew ?_))); (case side2 => exact HC0.out); rintro e w41 ⟨rfl, hb⟩; have n0_ := Aside0.mk (blk_below (g := gb274) (o := .cells #[.int .i64 a1_0, .int .i64 a1_1] 30 (0, 0)) (by (with_reducible repeat (first | refine blk_drewN ?_ _ | refine blk_drew ?_ | refine blk_alloc ?_ _)); exact BK274.out) hb); have n1_ := Aside0.mk (blk_below (g := gb280) (o := .cells #[.int .i64 t275, .int .i64 t276, .int .i64 t277, .int .i64 t278] 41 (0, 0)) (by (with_reducible repeat (first | refine blk_drewN ?_ _ | refine blk_drew ?_ | refine blk_alloc ?_ _)); exact BK280.out) hb); have n2_ := Aside0.mk (below_step (by repeat (first | exact HB.out | apply below_alloc | apply pw_below_drewN | apply below_drew1 | refine below_set ?_ GE274.out | refine below_set ?_ GE280.out)) hb); clear BK274; clear BK280; clear HB; have BK274 := n0_; have BK280 := n1_; have HB := n2_; clear n0_ n1_ n2_; (try clear hb); (try clear hb2); (try clear hk); (try clear hi); have p289 : 0 ≤ (x11_2 : Int) := of_decide_eq_true (by first | (with_reducible assumption) | assumption); have q289 : x11_2 < (l0.length : Int) := of_decide_eq_true (by first | (with_reducible assumption) | assumption); obtain ⟨ad289, e289, hx289_0, hx289_1⟩ := at_T30 HR0.out x11_2 p289 q289; obtain rfl : ad286 = ad289 := (by injection e289); replace hx289_0 := (HB.out.cell (World.block_lt_of_cell? w _ hx289_0)).trans hx289_0; replace hx289_1 := (HB.out.cell (World.block_lt_of_cell? w _ hx289_1)).trans hx289_1; replace p289 := eq_true p289; replace q289 := eq_true q289; have hnb42 := NB280_274.out; have hnc42 := NB274_280.out; have hcz43_0 : w41.cell? ⟨gb280, 0, none⟩ = some (.int .i64 t275) := (blk_cell BK280.out 0).trans rfl; have hcz43_1 : w41.cell? ⟨gb280, 1, none⟩ = some (.int .i64 t276) := (blk_cell BK280.out 1).trans rfl; have hcz43_2 : w41.cell? ⟨gb280, 2, none⟩ = some (.int .i64 t277) := (blk_cell BK280.out 2).trans rfl; have hcz43_3 : w41.cell? ⟨gb280, 3, none⟩ = some (.int .i64 t278) := (blk_cell BK280.out 3).trans rfl; have hfz43_0 := blk_frozen BK280.out 0; have hfz43_1 := blk_frozen BK280.out 1; have hfz43_2 := blk_frozen BK280.out 2; have hfz43_3 := blk_frozen BK280.out 3; have p290 : 0 ≤ (x11_2 : Int) := of_decide_eq_true (by first | (with_reducible assumption) | assumption); have q290 : x11_2 < (l0.length : Int) := of_decide_eq_true (by first | (with_reducible assumption) | assumption); obtain ⟨ad290, e290, hx290_0, hx290_1⟩ := at_T30 HR0.out x11_2 p290 q290; obtain rfl : ad286 = ad290 := (by injection e290); replace hx290_0 := (HB.out.cell (World.block_lt_of_cell? w _ hx290_0)).trans hx290_0; replace hx290_1 := (HB.out.cell (World.block_lt_of_cell? w _ hx290_1)).trans hx290_1; replace p290 := eq_true p290; replace q290 := eq_true q290))
                   repeat (go_quiet (fail); try go_wp2)
                   go_roundg k2
                   case measure => have := HJ3.out; have := HK2.out; omega
                   case rel => exact ⟨(true), (true), (true), (((wrap64 (((rd_T30 l0 x11_2).f1) - t276)) == t278)), (wrap64 (x11_2 + 1)), (by first | rfl | (simp; done) | (simp [*]; done)), (by first | rfl | (simp; done) | (simp [*]; done)), (by first | rfl | (simp; done) | (simp [*]; done)), (by first | rfl | (simp; done) | (simp [*]; done)), (by first | rfl | (simp; done) | (simp [*]; done)), H', ⟨by have := HJ3.out; have := HK2.out; omega⟩, ⟨by (with_reducible repeat (first | refine blk_drewN ?_ _ | refine blk_drew ?_ | refine blk_alloc ?_ _)); exact BK274.out⟩, ⟨by (with_reducible repeat (first | refine blk_drewN ?_ _ | refine blk_drew ?_ | refine blk_alloc ?_ _)); exact BK280.out⟩, ⟨by repeat (first | (with_reducible first | exact HB.out | apply below_alloc | apply pw_below_drewN | apply below_drew1 | refine below_set ?_ GE274.out | refine below_set ?_ GE280.out) | exact HB.out)⟩⟩
                ·replace c36 := Bool.eq_false_iff.mpr c36
                 subst c36
                 have H1 : (if x10_2 = true then (garmentlaw11_PolygonCorners.l0 k2 l0 true true ((wrap64 (((rd_T30 l0 x11_2).f1) - t276)) == 0) true (wrap64 (x11_2 + 1)) a1_0 a1_1 t275 t276 t277 t278) else (garmentlaw11_PolygonCorners.l0 k2 l0 true true ((wrap64 (((rd_T30 l0 x11_2).f1) - t276)) == 0) ((wrap64 (((rd_T30 l0 x11_2).f1) - t276)) == t278) (wrap64 (x11_2 + 1)) a1_0 a1_1 t275 t276 t277 t278)) = some r := by rw [if_neg (show ¬ (false = true) by decide)] at H; exact H
                 clear H
                 have H := H1
                 clear H1
                 by_cases c44 : x10_2 = true
                 ·subst c44
                  have H1 : (garmentlaw11_PolygonCorners.l0 k2 l0 true true ((wrap64 (((rd_T30 l0 x11_2).f1) - t276)) == 0) true (wrap64 (x11_2 + 1)) a1_0 a1_1 t275 t276 t277 t278) = some r := by rw [if_pos rfl] at H; exact H
                  clear H
                  have H := H1
                  clear H1
                  as_aux_lemma =>
                   have H' := Aside0.mk H
                   clear H
                   have p286 : 0 ≤ (x11_2 : Int) := of_decide_eq_true (by first | (with_reducible assumption) | assumption)
                   have q286 : x11_2 < (l0.length : Int) := of_decide_eq_true (by first | (with_reducible assumption) | assumption)
                   obtain ⟨ad286, e286, hx286_0, hx286_1⟩ := at_T30 HR0.out x11_2 p286 q286
                   cases e286
                   replace hx286_0 := (HB.out.cell (World.block_lt_of_cell? w _ hx286_0)).trans hx286_0
                   replace hx286_1 := (HB.out.cell (World.block_lt_of_cell? w _ hx286_1)).trans hx286_1
                   replace p286 := eq_true p286
                   replace q286 := eq_true q286
                   go_wp2_with (first | (go_at_call 17; (with_reducible refine (polygon_Where.calls k2 _ _ l0 ((rd_T30 l0 x11_2).f0) ((rd_T30 l0 x11_2).f1) t287 t288 _ ?side1 ?side2 A27.out).mono ?_); (case side1 => repeat (first | exact (Kd.C_below HR0.out HB.out) | (with_reducible refine Kd.C_alloc ?_ _) | (with_reducible refine Kd.C_drewN ?_ _) | (with_reducible refine Kd.C_drew ?_))); (case side2 => exact HC0.out); rintro e w45 ⟨rfl, hb⟩; have n0_ := Aside0.mk (blk_below (g := gb274) (o := .cells #[.int .i64 a1_0, .int .i64 a1_1] 30 (0, 0)) (by (with_reducible repeat (first | refine blk_drewN ?_ _ | refine blk_drew ?_ | refine blk_alloc ?_ _)); exact BK274.out) hb); have n1_ := Aside0.mk (blk_below (g := gb280) (o := .cells #[.int .i64 t275, .int .i64 t276, .int .i64 t277, .int .i64 t278] 41 (0, 0)) (by (with_reducible repeat (first | refine blk_drewN ?_ _ | refine blk_drew ?_ | refine blk_alloc ?_ _)); exact BK280.out) hb); have n2_ := Aside0.mk (below_step (by repeat (first | exact HB.out | apply below_alloc | apply pw_below_drewN | apply below_drew1 | refine below_set ?_ GE274.out | refine below_set ?_ GE280.out)) hb); clear BK274; clear BK280; clear HB; have BK274 := n0_; have BK280 := n1_; have HB := n2_; clear n0_ n1_ n2_; (try clear hb); (try clear hb2); (try clear hk); (try clear hi); have p289 : 0 ≤ (x11_2 : Int) := of_decide_eq_true (by first | (with_reducible assumption) | assumption); have q289 : x11_2 < (l0.length : Int) := of_decide_eq_true (by first | (with_reducible assumption) | assumption); obtain ⟨ad289, e289, hx289_0, hx289_1⟩ := at_T30 HR0.out x11_2 p289 q289; obtain rfl : ad286 = ad289 := (by injection e289); replace hx289_0 := (HB.out.cell (World.block_lt_of_cell? w _ hx289_0)).trans hx289_0; replace hx289_1 := (HB.out.cell (World.block_lt_of_cell? w _ hx289_1)).trans hx289_1; replace p289 := eq_true p289; replace q289 := eq_true q289; have hnb46 := NB280_274.out; have hnc46 := NB274_280.out; have hcz47_0 : w45.cell? ⟨gb280, 0, none⟩ = some (.int .i64 t275) := (blk_cell BK280.out 0).trans rfl; have hcz47_1 : w45.cell? ⟨gb280, 1, none⟩ = some (.int .i64 t276) := (blk_cell BK280.out 1).trans rfl; have hcz47_2 : w45.cell? ⟨gb280, 2, none⟩ = some (.int .i64 t277) := (blk_cell BK280.out 2).trans rfl; have hcz47_3 : w45.cell? ⟨gb280, 3, none⟩ = some (.int .i64 t278) := (blk_cell BK280.out 3).trans rfl; have hfz47_0 := blk_frozen BK280.out 0; have hfz47_1 := blk_frozen BK280.out 1; have hfz47_2 := blk_frozen BK280.out 2; have hfz47_3 := blk_frozen BK280.out 3; have p290 : 0 ≤ (x11_2 : Int) := of_decide_eq_true (by first | (with_reducible assumption) | assumption); have q290 : x11_2 < (l0.length : Int) := of_decide_eq_true (by first | (with_reducible assumption) | assumption); obtain ⟨ad290, e290, hx290_0, hx290_1⟩ := at_T30 HR0.out x11_2 p290 q290; obtain rfl : ad286 = ad290 := (by injection e290); replace hx290_0 := (HB.out.cell (World.block_lt_of_cell? w _ hx290_0)).trans hx290_0; replace hx290_1 := (HB.out.cell (World.block_lt_of_cell? w _ hx290_1)).trans hx290_1; replace p290 := eq_true p290; replace q290 := eq_true q290))
                   repeat (go_quiet (fail); try go_wp2)
                   go_roundg k2
                   case measure => have := HJ3.out; have := HK2.out; omega
                   case rel => exact ⟨(true), (true), (((wrap64 (((rd_T30 l0 x11_2).f1) - t276)) == 0)), (true), (wrap64 (x11_2 + 1)), (by first | rfl | (simp; done) | (simp [*]; done)), (by first | rfl | (simp; done) | (simp [*]; done)), (by first | rfl | (simp; done) | (simp [*]; done)), (by first | rfl | (simp; done) | (simp [*]; done)), (by first | rfl | (simp; done) | (simp [*]; done)), H', ⟨by have := HJ3.out; have := HK2.out; omega⟩, ⟨by (with_reducible repeat (first | refine blk_drewN ?_ _ | refine blk_drew ?_ | refine blk_alloc ?_ _)); exact BK274.out⟩, ⟨by (with_reducible repeat (first | refine blk_drewN ?_ _ | refine blk_drew ?_ | refine blk_alloc ?_ _)); exact BK280.out⟩, ⟨by repeat (first | (with_reducible first | exact HB.out | apply below_alloc | apply pw_below_drewN | apply below_drew1 | refine below_set ?_ GE274.out | refine below_set ?_ GE280.out) | exact HB.out)⟩⟩
                 ·replace c44 := Bool.eq_false_iff.mpr c44
                  subst c44
                  have H1 : (garmentlaw11_PolygonCorners.l0 k2 l0 true true ((wrap64 (((rd_T30 l0 x11_2).f1) - t276)) == 0) ((wrap64 (((rd_T30 l0 x11_2).f1) - t276)) == t278) (wrap64 (x11_2 + 1)) a1_0 a1_1 t275 t276 t277 t278) = some r := by rw [if_neg (show ¬ (false = true) by decide)] at H; exact H
                  clear H
                  have H := H1
                  clear H1
                  as_aux_lemma =>
                   have H' := Aside0.mk H
                   clear H
                   have p286 : 0 ≤ (x11_2 : Int) := of_decide_eq_true (by first | (with_reducible assumption) | assumption)
                   have q286 : x11_2 < (l0.length : Int) := of_decide_eq_true (by first | (with_reducible assumption) | assumption)
                   obtain ⟨ad286, e286, hx286_0, hx286_1⟩ := at_T30 HR0.out x11_2 p286 q286
                   cases e286
                   replace hx286_0 := (HB.out.cell (World.block_lt_of_cell? w _ hx286_0)).trans hx286_0
                   replace hx286_1 := (HB.out.cell (World.block_lt_of_cell? w _ hx286_1)).trans hx286_1
                   replace p286 := eq_true p286
                   replace q286 := eq_true q286
                   go_wp2_with (first | (go_at_call 17; (with_reducible refine (polygon_Where.calls k2 _ _ l0 ((rd_T30 l0 x11_2).f0) ((rd_T30 l0 x11_2).f1) t287 t288 _ ?side1 ?side2 A27.out).mono ?_); (case side1 => repeat (first | exact (Kd.C_below HR0.out HB.out) | (with_reducible refine Kd.C_alloc ?_ _) | (with_reducible refine Kd.C_drewN ?_ _) | (with_reducible refine Kd.C_drew ?_))); (case side2 => exact HC0.out); rintro e w48 ⟨rfl, hb⟩; have n0_ := Aside0.mk (blk_below (g := gb274) (o := .cells #[.int .i64 a1_0, .int .i64 a1_1] 30 (0, 0)) (by (with_reducible repeat (first | refine blk_drewN ?_ _ | refine blk_drew ?_ | refine blk_alloc ?_ _)); exact BK274.out) hb); have n1_ := Aside0.mk (blk_below (g := gb280) (o := .cells #[.int .i64 t275, .int .i64 t276, .int .i64 t277, .int .i64 t278] 41 (0, 0)) (by (with_reducible repeat (first | refine blk_drewN ?_ _ | refine blk_drew ?_ | refine blk_alloc ?_ _)); exact BK280.out) hb); have n2_ := Aside0.mk (below_step (by repeat (first | exact HB.out | apply below_alloc | apply pw_below_drewN | apply below_drew1 | refine below_set ?_ GE274.out | refine below_set ?_ GE280.out)) hb); clear BK274; clear BK280; clear HB; have BK274 := n0_; have BK280 := n1_; have HB := n2_; clear n0_ n1_ n2_; (try clear hb); (try clear hb2); (try clear hk); (try clear hi); have p289 : 0 ≤ (x11_2 : Int) := of_decide_eq_true (by first | (with_reducible assumption) | assumption); have q289 : x11_2 < (l0.length : Int) := of_decide_eq_true (by first | (with_reducible assumption) | assumption); obtain ⟨ad289, e289, hx289_0, hx289_1⟩ := at_T30 HR0.out x11_2 p289 q289; obtain rfl : ad286 = ad289 := (by injection e289); replace hx289_0 := (HB.out.cell (World.block_lt_of_cell? w _ hx289_0)).trans hx289_0; replace hx289_1 := (HB.out.cell (World.block_lt_of_cell? w _ hx289_1)).trans hx289_1; replace p289 := eq_true p289; replace q289 := eq_true q289; have hnb49 := NB280_274.out; have hnc49 := NB274_280.out; have hcz50_0 : w48.cell? ⟨gb280, 0, none⟩ = some (.int .i64 t275) := (blk_cell BK280.out 0).trans rfl; have hcz50_1 : w48.cell? ⟨gb280, 1, none⟩ = some (.int .i64 t276) := (blk_cell BK280.out 1).trans rfl; have hcz50_2 : w48.cell? ⟨gb280, 2, none⟩ = some (.int .i64 t277) := (blk_cell BK280.out 2).trans rfl; have hcz50_3 : w48.cell? ⟨gb280, 3, none⟩ = some (.int .i64 t278) := (blk_cell BK280.out 3).trans rfl; have hfz50_0 := blk_frozen BK280.out 0; have hfz50_1 := blk_frozen BK280.out 1; have hfz50_2 := blk_frozen BK280.out 2; have hfz50_3 := blk_frozen BK280.out 3; have p290 : 0 ≤ (x11_2 : Int) := of_decide_eq_true (by first | (with_reducible assumption) | assumption); have q290 : x11_2 < (l0.length : Int) := of_decide_eq_true (by first | (with_reducible assumption) | assumption); obtain ⟨ad290, e290, hx290_0, hx290_1⟩ := at_T30 HR0.out x11_2 p290 q290; obtain rfl : ad286 = ad290 := (by injection e290); replace hx290_0 := (HB.out.cell (World.block_lt_of_cell? w _ hx290_0)).trans hx290_0; replace hx290_1 := (HB.out.cell (World.block_lt_of_cell? w _ hx290_1)).trans hx290_1; replace p290 := eq_true p290; replace q290 := eq_true q290))
                   repeat (go_quiet (fail); try go_wp2)
                   go_roundg k2
                   case measure => have := HJ3.out; have := HK2.out; omega
                   case rel => exact ⟨(true), (true), (((wrap64 (((rd_T30 l0 x11_2).f1) - t276)) == 0)), (((wrap64 (((rd_T30 l0 x11_2).f1) - t276)) == t278)), (wrap64 (x11_2 + 1)), (by first | rfl | (simp; done) | (simp [*]; done)), (by first | rfl | (simp; done) | (simp [*]; done)), (by first | rfl | (simp; done) | (simp [*]; done)), (by first | rfl | (simp; done) | (simp [*]; done)), (by first | rfl | (simp; done) | (simp [*]; done)), H', ⟨by have := HJ3.out; have := HK2.out; omega⟩, ⟨by (with_reducible repeat (first | refine blk_drewN ?_ _ | refine blk_drew ?_ | refine blk_alloc ?_ _)); exact BK274.out⟩, ⟨by (with_reducible repeat (first | refine blk_drewN ?_ _ | refine blk_drew ?_ | refine blk_alloc ?_ _)); exact BK280.out⟩, ⟨by repeat (first | (with_reducible first | exact HB.out | apply below_alloc | apply pw_below_drewN | apply below_drew1 | refine below_set ?_ GE274.out | refine below_set ?_ GE280.out) | exact HB.out)⟩⟩
               ·replace c35 := Bool.eq_false_iff.mpr c35
                subst c35
                have H1 : (if x9_2 = true then (if x10_2 = true then (garmentlaw11_PolygonCorners.l0 k2 l0 true ((wrap64 (((rd_T30 l0 x11_2).f0) - t275)) == t277) true true (wrap64 (x11_2 + 1)) a1_0 a1_1 t275 t276 t277 t278) else (garmentlaw11_PolygonCorners.l0 k2 l0 true ((wrap64 (((rd_T30 l0 x11_2).f0) - t275)) == t277) true ((wrap64 (((rd_T30 l0 x11_2).f1) - t276)) == t278) (wrap64 (x11_2 + 1)) a1_0 a1_1 t275 t276 t277 t278)) else (if x10_2 = true then (garmentlaw11_PolygonCorners.l0 k2 l0 true ((wrap64 (((rd_T30 l0 x11_2).f0) - t275)) == t277) ((wrap64 (((rd_T30 l0 x11_2).f1) - t276)) == 0) true (wrap64 (x11_2 + 1)) a1_0 a1_1 t275 t276 t277 t278) else (garmentlaw11_PolygonCorners.l0 k2 l0 true ((wrap64 (((rd_T30 l0 x11_2).f0) - t275)) == t277) ((wrap64 (((rd_T30 l0 x11_2).f1) - t276)) == 0) ((wrap64 (((rd_T30 l0 x11_2).f1) - t276)) == t278) (wrap64 (x11_2 + 1)) a1_0 a1_1 t275 t276 t277 t278))) = some r := by rw [if_neg (show ¬ (false = true) by decide)] at H; exact H
                clear H
                have H := H1
                clear H1
                by_cases c51 : x9_2 = true
                ·subst c51
                 have H1 : (if x10_2 = true then (garmentlaw11_PolygonCorners.l0 k2 l0 true ((wrap64 (((rd_T30 l0 x11_2).f0) - t275)) == t277) true true (wrap64 (x11_2 + 1)) a1_0 a1_1 t275 t276 t277 t278) else (garmentlaw11_PolygonCorners.l0 k2 l0 true ((wrap64 (((rd_T30 l0 x11_2).f0) - t275)) == t277) true ((wrap64 (((rd_T30 l0 x11_2).f1) - t276)) == t278) (wrap64 (x11_2 + 1)) a1_0 a1_1 t275 t276 t277 t278)) = some r := by rw [if_pos rfl] at H; exact H
                 clear H
                 have H := H1
                 clear H1
                 by_cases c52 : x10_2 = true
                 ·subst c52
                  have H1 : (garmentlaw11_PolygonCorners.l0 k2 l0 true ((wrap64 (((rd_T30 l0 x11_2).f0) - t275)) == t277) true true (wrap64 (x11_2 + 1)) a1_0 a1_1 t275 t276 t277 t278) = some r := by rw [if_pos rfl] at H; exact H
                  clear H
                  have H := H1
                  clear H1
                  as_aux_lemma =>
                   have H' := Aside0.mk H
                   clear H
                   have p286 : 0 ≤ (x11_2 : Int) := of_decide_eq_true (by first | (with_reducible assumption) | assumption)
                   have q286 : x11_2 < (l0.length : Int) := of_decide_eq_true (by first | (with_reducible assumption) | assumption)
                   obtain ⟨ad286, e286, hx286_0, hx286_1⟩ := at_T30 HR0.out x11_2 p286 q286
                   cases e286
                   replace hx286_0 := (HB.out.cell (World.block_lt_of_cell? w _ hx286_0)).trans hx286_0
                   replace hx286_1 := (HB.out.cell (World.block_lt_of_cell? w _ hx286_1)).trans hx286_1
                   replace p286 := eq_true p286
                   replace q286 := eq_true q286
                   go_wp2_with (first | (go_at_call 17; (with_reducible refine (polygon_Where.calls k2 _ _ l0 ((rd_T30 l0 x11_2).f0) ((rd_T30 l0 x11_2).f1) t287 t288 _ ?side1 ?side2 A27.out).mono ?_); (case side1 => repeat (first | exact (Kd.C_below HR0.out HB.out) | (with_reducible refine Kd.C_alloc ?_ _) | (with_reducible refine Kd.C_drewN ?_ _) | (with_reducible refine Kd.C_drew ?_))); (case side2 => exact HC0.out); rintro e w53 ⟨rfl, hb⟩; have n0_ := Aside0.mk (blk_below (g := gb274) (o := .cells #[.int .i64 a1_0, .int .i64 a1_1] 30 (0, 0)) (by (with_reducible repeat (first | refine blk_drewN ?_ _ | refine blk_drew ?_ | refine blk_alloc ?_ _)); exact BK274.out) hb); have n1_ := Aside0.mk (blk_below (g := gb280) (o := .cells #[.int .i64 t275, .int .i64 t276, .int .i64 t277, .int .i64 t278] 41 (0, 0)) (by (with_reducible repeat (first | refine blk_drewN ?_ _ | refine blk_drew ?_ | refine blk_alloc ?_ _)); exact BK280.out) hb); have n2_ := Aside0.mk (below_step (by repeat (first | exact HB.out | apply below_alloc | apply pw_below_drewN | apply below_drew1 | refine below_set ?_ GE274.out | refine below_set ?_ GE280.out)) hb); clear BK274; clear BK280; clear HB; have BK274 := n0_; have BK280 := n1_; have HB := n2_; clear n0_ n1_ n2_; (try clear hb); (try clear hb2); (try clear hk); (try clear hi); have p289 : 0 ≤ (x11_2 : Int) := of_decide_eq_true (by first | (with_reducible assumption) | assumption); have q289 : x11_2 < (l0.length : Int) := of_decide_eq_true (by first | (with_reducible assumption) | assumption); obtain ⟨ad289, e289, hx289_0, hx289_1⟩ := at_T30 HR0.out x11_2 p289 q289; obtain rfl : ad286 = ad289 := (by injection e289); replace hx289_0 := (HB.out.cell (World.block_lt_of_cell? w _ hx289_0)).trans hx289_0; replace hx289_1 := (HB.out.cell (World.block_lt_of_cell? w _ hx289_1)).trans hx289_1; replace p289 := eq_true p289; replace q289 := eq_true q289; have hnb54 := NB280_274.out; have hnc54 := NB274_280.out; have hcz55_0 : w53.cell? ⟨gb280, 0, none⟩ = some (.int .i64 t275) := (blk_cell BK280.out 0).trans rfl; have hcz55_1 : w53.cell? ⟨gb280, 1, none⟩ = some (.int .i64 t276) := (blk_cell BK280.out 1).trans rfl; have hcz55_2 : w53.cell? ⟨gb280, 2, none⟩ = some (.int .i64 t277) := (blk_cell BK280.out 2).trans rfl; have hcz55_3 : w53.cell? ⟨gb280, 3, none⟩ = some (.int .i64 t278) := (blk_cell BK280.out 3).trans rfl; have hfz55_0 := blk_frozen BK280.out 0; have hfz55_1 := blk_frozen BK280.out 1; have hfz55_2 := blk_frozen BK280.out 2; have hfz55_3 := blk_frozen BK280.out 3; have p290 : 0 ≤ (x11_2 : Int) := of_decide_eq_true (by first | (with_reducible assumption) | assumption); have q290 : x11_2 < (l0.length : Int) := of_decide_eq_true (by first | (with_reducible assumption) | assumption); obtain ⟨ad290, e290, hx290_0, hx290_1⟩ := at_T30 HR0.out x11_2 p290 q290; obtain rfl : ad286 = ad290 := (by injection e290); replace hx290_0 := (HB.out.cell (World.block_lt_of_cell? w _ hx290_0)).trans hx290_0; replace hx290_1 := (HB.out.cell (World.block_lt_of_cell? w _ hx290_1)).trans hx290_1; replace p290 := eq_true p290; replace q290 := eq_true q290))
                   repeat (go_quiet (fail); try go_wp2)
                   go_roundg k2
                   case measure => have := HJ3.out; have := HK2.out; omega
                   case rel => exact ⟨(true), (((wrap64 (((rd_T30 l0 x11_2).f0) - t275)) == t277)), (true), (true), (wrap64 (x11_2 + 1)), (by first | rfl | (simp; done) | (simp [*]; done)), (by first | rfl | (simp; done) | (simp [*]; done)), (by first | rfl | (simp; done) | (simp [*]; done)), (by first | rfl | (simp; done) | (simp [*]; done)), (by first | rfl | (simp; done) | (simp [*]; done)), H', ⟨by have := HJ3.out; have := HK2.out; omega⟩, ⟨by (with_reducible repeat (first | refine blk_drewN ?_ _ | refine blk_drew ?_ | refine blk_alloc ?_ _)); exact BK274.out⟩, ⟨by (with_reducible repeat (first | refine blk_drewN ?_ _ | refine blk_drew ?_ | refine blk_alloc ?_ _)); exact BK280.out⟩, ⟨by repeat (first | (with_reducible first | exact HB.out | apply below_alloc | apply pw_below_drewN | apply below_drew1 | refine below_set ?_ GE274.out | refine below_set ?_ GE280.out) | exact HB.out)⟩⟩
                 ·replace c52 := Bool.eq_false_iff.mpr c52
                  subst c52
                  have H1 : (garmentlaw11_PolygonCorners.l0 k2 l0 true ((wrap64 (((rd_T30 l0 x11_2).f0) - t275)) == t277) true ((wrap64 (((rd_T30 l0 x11_2).f1) - t276)) == t278) (wrap64 (x11_2 + 1)) a1_0 a1_1 t275 t276 t277 t278) = some r := by rw [if_neg (show ¬ (false = true) by decide)] at H; exact H
                  clear H
                  have H := H1
                  clear H1
                  as_aux_lemma =>
                   have H' := Aside0.mk H
                   clear H
                   have p286 : 0 ≤ (x11_2 : Int) := of_decide_eq_true (by first | (with_reducible assumption) | assumption)
                   have q286 : x11_2 < (l0.length : Int) := of_decide_eq_true (by first | (with_reducible assumption) | assumption)
                   obtain ⟨ad286, e286, hx286_0, hx286_1⟩ := at_T30 HR0.out x11_2 p286 q286
                   cases e286
                   replace hx286_0 := (HB.out.cell (World.block_lt_of_cell? w _ hx286_0)).trans hx286_0
                   replace hx286_1 := (HB.out.cell (World.block_lt_of_cell? w _ hx286_1)).trans hx286_1
                   replace p286 := eq_true p286
                   replace q286 := eq_true q286
                   go_wp2_with (first | (go_at_call 17; (with_reducible refine (polygon_Where.calls k2 _ _ l0 ((rd_T30 l0 x11_2).f0) ((rd_T30 l0 x11_2).f1) t287 t288 _ ?side1 ?side2 A27.out).mono ?_); (case side1 => repeat (first | exact (Kd.C_below HR0.out HB.out) | (with_reducible refine Kd.C_alloc ?_ _) | (with_reducible refine Kd.C_drewN ?_ _) | (with_reducible refine Kd.C_drew ?_))); (case side2 => exact HC0.out); rintro e w56 ⟨rfl, hb⟩; have n0_ := Aside0.mk (blk_below (g := gb274) (o := .cells #[.int .i64 a1_0, .int .i64 a1_1] 30 (0, 0)) (by (with_reducible repeat (first | refine blk_drewN ?_ _ | refine blk_drew ?_ | refine blk_alloc ?_ _)); exact BK274.out) hb); have n1_ := Aside0.mk (blk_below (g := gb280) (o := .cells #[.int .i64 t275, .int .i64 t276, .int .i64 t277, .int .i64 t278] 41 (0, 0)) (by (with_reducible repeat (first | refine blk_drewN ?_ _ | refine blk_drew ?_ | refine blk_alloc ?_ _)); exact BK280.out) hb); have n2_ := Aside0.mk (below_step (by repeat (first | exact HB.out | apply below_alloc | apply pw_below_drewN | apply below_drew1 | refine below_set ?_ GE274.out | refine below_set ?_ GE280.out)) hb); clear BK274; clear BK280; clear HB; have BK274 := n0_; have BK280 := n1_; have HB := n2_; clear n0_ n1_ n2_; (try clear hb); (try clear hb2); (try clear hk); (try clear hi); have p289 : 0 ≤ (x11_2 : Int) := of_decide_eq_true (by first | (with_reducible assumption) | assumption); have q289 : x11_2 < (l0.length : Int) := of_decide_eq_true (by first | (with_reducible assumption) | assumption); obtain ⟨ad289, e289, hx289_0, hx289_1⟩ := at_T30 HR0.out x11_2 p289 q289; obtain rfl : ad286 = ad289 := (by injection e289); replace hx289_0 := (HB.out.cell (World.block_lt_of_cell? w _ hx289_0)).trans hx289_0; replace hx289_1 := (HB.out.cell (World.block_lt_of_cell? w _ hx289_1)).trans hx289_1; replace p289 := eq_true p289; replace q289 := eq_true q289; have hnb57 := NB280_274.out; have hnc57 := NB274_280.out; have hcz58_0 : w56.cell? ⟨gb280, 0, none⟩ = some (.int .i64 t275) := (blk_cell BK280.out 0).trans rfl; have hcz58_1 : w56.cell? ⟨gb280, 1, none⟩ = some (.int .i64 t276) := (blk_cell BK280.out 1).trans rfl; have hcz58_2 : w56.cell? ⟨gb280, 2, none⟩ = some (.int .i64 t277) := (blk_cell BK280.out 2).trans rfl; have hcz58_3 : w56.cell? ⟨gb280, 3, none⟩ = some (.int .i64 t278) := (blk_cell BK280.out 3).trans rfl; have hfz58_0 := blk_frozen BK280.out 0; have hfz58_1 := blk_frozen BK280.out 1; have hfz58_2 := blk_frozen BK280.out 2; have hfz58_3 := blk_frozen BK280.out 3; have p290 : 0 ≤ (x11_2 : Int) := of_decide_eq_true (by first | (with_reducible assumption) | assumption); have q290 : x11_2 < (l0.length : Int) := of_decide_eq_true (by first | (with_reducible assumption) | assumption); obtain ⟨ad290, e290, hx290_0, hx290_1⟩ := at_T30 HR0.out x11_2 p290 q290; obtain rfl : ad286 = ad290 := (by injection e290); replace hx290_0 := (HB.out.cell (World.block_lt_of_cell? w _ hx290_0)).trans hx290_0; replace hx290_1 := (HB.out.cell (World.block_lt_of_cell? w _ hx290_1)).trans hx290_1; replace p290 := eq_true p290; replace q290 := eq_true q290))
                   repeat (go_quiet (fail); try go_wp2)
                   go_roundg k2
                   case measure => have := HJ3.out; have := HK2.out; omega
                   case rel => exact ⟨(true), (((wrap64 (((rd_T30 l0 x11_2).f0) - t275)) == t277)), (true), (((wrap64 (((rd_T30 l0 x11_2).f1) - t276)) == t278)), (wrap64 (x11_2 + 1)), (by first | rfl | (simp; done) | (simp [*]; done)), (by first | rfl | (simp; done) | (simp [*]; done)), (by first | rfl | (simp; done) | (simp [*]; done)), (by first | rfl | (simp; done) | (simp [*]; done)), (by first | rfl | (simp; done) | (simp [*]; done)), H', ⟨by have := HJ3.out; have := HK2.out; omega⟩, ⟨by (with_reducible repeat (first | refine blk_drewN ?_ _ | refine blk_drew ?_ | refine blk_alloc ?_ _)); exact BK274.out⟩, ⟨by (with_reducible repeat (first | refine blk_drewN ?_ _ | refine blk_drew ?_ | refine blk_alloc ?_ _)); exact BK280.out⟩, ⟨by repeat (first | (with_reducible first | exact HB.out | apply below_alloc | apply pw_below_drewN | apply below_drew1 | refine below_set ?_ GE274.out | refine below_set ?_ GE280.out) | exact HB.out)⟩⟩
                ·replace c51 := Bool.eq_false_iff.mpr c51
                 subst c51
                 have H1 : (if x10_2 = true then (garmentlaw11_PolygonCorners.l0 k2 l0 true ((wrap64 (((rd_T30 l0 x11_2).f0) - t275)) == t277) ((wrap64 (((rd_T30 l0 x11_2).f1) - t276)) == 0) true (wrap64 (x11_2 + 1)) a1_0 a1_1 t275 t276 t277 t278) else (garmentlaw11_PolygonCorners.l0 k2 l0 true ((wrap64 (((rd_T30 l0 x11_2).f0) - t275)) == t277) ((wrap64 (((rd_T30 l0 x11_2).f1) - t276)) == 0) ((wrap64 (((rd_T30 l0 x11_2).f1) - t276)) == t278) (wrap64 (x11_2 + 1)) a1_0 a1_1 t275 t276 t277 t278)) = some r := by rw [if_neg (show ¬ (false = true) by decide)] at H; exact H
                 clear H
                 have H := H1
                 clear H1
                 by_cases c59 : x10_2 = true
                 ·subst c59
                  have H1 : (garmentlaw11_PolygonCorners.l0 k2 l0 true ((wrap64 (((rd_T30 l0 x11_2).f0) - t275)) == t277) ((wrap64 (((rd_T30 l0 x11_2).f1) - t276)) == 0) true (wrap64 (x11_2 + 1)) a1_0 a1_1 t275 t276 t277 t278) = some r := by rw [if_pos rfl] at H; exact H
                  clear H
                  have H := H1
                  clear H1
                  as_aux_lemma =>
                   have H' := Aside0.mk H
                   clear H
                   have p286 : 0 ≤ (x11_2 : Int) := of_decide_eq_true (by first | (with_reducible assumption) | assumption)
                   have q286 : x11_2 < (l0.length : Int) := of_decide_eq_true (by first | (with_reducible assumption) | assumption)
                   obtain ⟨ad286, e286, hx286_0, hx286_1⟩ := at_T30 HR0.out x11_2 p286 q286
                   cases e286
                   replace hx286_0 := (HB.out.cell (World.block_lt_of_cell? w _ hx286_0)).trans hx286_0
                   replace hx286_1 := (HB.out.cell (World.block_lt_of_cell? w _ hx286_1)).trans hx286_1
                   replace p286 := eq_true p286
                   replace q286 := eq_true q286
                   go_wp2_with (first | (go_at_call 17; (with_reducible refine (polygon_Where.calls k2 _ _ l0 ((rd_T30 l0 x11_2).f0) ((rd_T30 l0 x11_2).f1) t287 t288 _ ?side1 ?side2 A27.out).mono ?_); (case side1 => repeat (first | exact (Kd.C_below HR0.out HB.out) | (with_reducible refine Kd.C_alloc ?_ _) | (with_reducible refine Kd.C_drewN ?_ _) | (with_reducible refine Kd.C_drew ?_))); (case side2 => exact HC0.out); rintro e w60 ⟨rfl, hb⟩; have n0_ := Aside0.mk (blk_below (g := gb274) (o := .cells #[.int .i64 a1_0, .int .i64 a1_1] 30 (0, 0)) (by (with_reducible repeat (first | refine blk_drewN ?_ _ | refine blk_drew ?_ | refine blk_alloc ?_ _)); exact BK274.out) hb); have n1_ := Aside0.mk (blk_below (g := gb280) (o := .cells #[.int .i64 t275, .int .i64 t276, .int .i64 t277, .int .i64 t278] 41 (0, 0)) (by (with_reducible repeat (first | refine blk_drewN ?_ _ | refine blk_drew ?_ | refine blk_alloc ?_ _)); exact BK280.out) hb); have n2_ := Aside0.mk (below_step (by repeat (first | exact HB.out | apply below_alloc | apply pw_below_drewN | apply below_drew1 | refine below_set ?_ GE274.out | refine below_set ?_ GE280.out)) hb); clear BK274; clear BK280; clear HB; have BK274 := n0_; have BK280 := n1_; have HB := n2_; clear n0_ n1_ n2_; (try clear hb); (try clear hb2); (try clear hk); (try clear hi); have p289 : 0 ≤ (x11_2 : Int) := of_decide_eq_true (by first | (with_reducible assumption) | assumption); have q289 : x11_2 < (l0.length : Int) := of_decide_eq_true (by first | (with_reducible assumption) | assumption); obtain ⟨ad289, e289, hx289_0, hx289_1⟩ := at_T30 HR0.out x11_2 p289 q289; obtain rfl : ad286 = ad289 := (by injection e289); replace hx289_0 := (HB.out.cell (World.block_lt_of_cell? w _ hx289_0)).trans hx289_0; replace hx289_1 := (HB.out.cell (World.block_lt_of_cell? w _ hx289_1)).trans hx289_1; replace p289 := eq_true p289; replace q289 := eq_true q289; have hnb61 := NB280_274.out; have hnc61 := NB274_280.out; have hcz62_0 : w60.cell? ⟨gb280, 0, none⟩ = some (.int .i64 t275) := (blk_cell BK280.out 0).trans rfl; have hcz62_1 : w60.cell? ⟨gb280, 1, none⟩ = some (.int .i64 t276) := (blk_cell BK280.out 1).trans rfl; have hcz62_2 : w60.cell? ⟨gb280, 2, none⟩ = some (.int .i64 t277) := (blk_cell BK280.out 2).trans rfl; have hcz62_3 : w60.cell? ⟨gb280, 3, none⟩ = some (.int .i64 t278) := (blk_cell BK280.out 3).trans rfl; have hfz62_0 := blk_frozen BK280.out 0; have hfz62_1 := blk_frozen BK280.out 1; have hfz62_2 := blk_frozen BK280.out 2; have hfz62_3 := blk_frozen BK280.out 3; have p290 : 0 ≤ (x11_2 : Int) := of_decide_eq_true (by first | (with_reducible assumption) | assumption); have q290 : x11_2 < (l0.length : Int) := of_decide_eq_true (by first | (with_reducible assumption) | assumption); obtain ⟨ad290, e290, hx290_0, hx290_1⟩ := at_T30 HR0.out x11_2 p290 q290; obtain rfl : ad286 = ad290 := (by injection e290); replace hx290_0 := (HB.out.cell (World.block_lt_of_cell? w _ hx290_0)).trans hx290_0; replace hx290_1 := (HB.out.cell (World.block_lt_of_cell? w _ hx290_1)).trans hx290_1; replace p290 := eq_true p290; replace q290 := eq_true q290))
                   repeat (go_quiet (fail); try go_wp2)
                   go_roundg k2
                   case measure => have := HJ3.out; have := HK2.out; omega
                   case rel => exact ⟨(true), (((wrap64 (((rd_T30 l0 x11_2).f0) - t275)) == t277)), (((wrap64 (((rd_T30 l0 x11_2).f1) - t276)) == 0)), (true), (wrap64 (x11_2 + 1)), (by first | rfl | (simp; done) | (simp [*]; done)), (by first | rfl | (simp; done) | (simp [*]; done)), (by first | rfl | (simp; done) | (simp [*]; done)), (by first | rfl | (simp; done) | (simp [*]; done)), (by first | rfl | (simp; done) | (simp [*]; done)), H', ⟨by have := HJ3.out; have := HK2.out; omega⟩, ⟨by (with_reducible repeat (first | refine blk_drewN ?_ _ | refine blk_drew ?_ | refine blk_alloc ?_ _)); exact BK274.out⟩, ⟨by (with_reducible repeat (first | refine blk_drewN ?_ _ | refine blk_drew ?_ | refine blk_alloc ?_ _)); exact BK280.out⟩, ⟨by repeat (first | (with_reducible first | exact HB.out | apply below_alloc | apply pw_below_drewN | apply below_drew1 | refine below_set ?_ GE274.out | refine below_set ?_ GE280.out) | exact HB.out)⟩⟩
                 ·replace c59 := Bool.eq_false_iff.mpr c59
                  subst c59
                  have H1 : (garmentlaw11_PolygonCorners.l0 k2 l0 true ((wrap64 (((rd_T30 l0 x11_2).f0) - t275)) == t277) ((wrap64 (((rd_T30 l0 x11_2).f1) - t276)) == 0) ((wrap64 (((rd_T30 l0 x11_2).f1) - t276)) == t278) (wrap64 (x11_2 + 1)) a1_0 a1_1 t275 t276 t277 t278) = some r := by rw [if_neg (show ¬ (false = true) by decide)] at H; exact H
                  clear H
                  have H := H1
                  clear H1
                  as_aux_lemma =>
                   have H' := Aside0.mk H
                   clear H
                   have p286 : 0 ≤ (x11_2 : Int) := of_decide_eq_true (by first | (with_reducible assumption) | assumption)
                   have q286 : x11_2 < (l0.length : Int) := of_decide_eq_true (by first | (with_reducible assumption) | assumption)
                   obtain ⟨ad286, e286, hx286_0, hx286_1⟩ := at_T30 HR0.out x11_2 p286 q286
                   cases e286
                   replace hx286_0 := (HB.out.cell (World.block_lt_of_cell? w _ hx286_0)).trans hx286_0
                   replace hx286_1 := (HB.out.cell (World.block_lt_of_cell? w _ hx286_1)).trans hx286_1
                   replace p286 := eq_true p286
                   replace q286 := eq_true q286
                   go_wp2_with (first | (go_at_call 17; (with_reducible refine (polygon_Where.calls k2 _ _ l0 ((rd_T30 l0 x11_2).f0) ((rd_T30 l0 x11_2).f1) t287 t288 _ ?side1 ?side2 A27.out).mono ?_); (case side1 => repeat (first | exact (Kd.C_below HR0.out HB.out) | (with_reducible refine Kd.C_alloc ?_ _) | (with_reducible refine Kd.C_drewN ?_ _) | (with_reducible refine Kd.C_drew ?_))); (case side2 => exact HC0.out); rintro e w63 ⟨rfl, hb⟩; have n0_ := Aside0.mk (blk_below (g := gb274) (o := .cells #[.int .i64 a1_0, .int .i64 a1_1] 30 (0, 0)) (by (with_reducible repeat (first | refine blk_drewN ?_ _ | refine blk_drew ?_ | refine blk_alloc ?_ _)); exact BK274.out) hb); have n1_ := Aside0.mk (blk_below (g := gb280) (o := .cells #[.int .i64 t275, .int .i64 t276, .int .i64 t277, .int .i64 t278] 41 (0, 0)) (by (with_reducible repeat (first | refine blk_drewN ?_ _ | refine blk_drew ?_ | refine blk_alloc ?_ _)); exact BK280.out) hb); have n2_ := Aside0.mk (below_step (by repeat (first | exact HB.out | apply below_alloc | apply pw_below_drewN | apply below_drew1 | refine below_set ?_ GE274.out | refine below_set ?_ GE280.out)) hb); clear BK274; clear BK280; clear HB; have BK274 := n0_; have BK280 := n1_; have HB := n2_; clear n0_ n1_ n2_; (try clear hb); (try clear hb2); (try clear hk); (try clear hi); have p289 : 0 ≤ (x11_2 : Int) := of_decide_eq_true (by first | (with_reducible assumption) | assumption); have q289 : x11_2 < (l0.length : Int) := of_decide_eq_true (by first | (with_reducible assumption) | assumption); obtain ⟨ad289, e289, hx289_0, hx289_1⟩ := at_T30 HR0.out x11_2 p289 q289; obtain rfl : ad286 = ad289 := (by injection e289); replace hx289_0 := (HB.out.cell (World.block_lt_of_cell? w _ hx289_0)).trans hx289_0; replace hx289_1 := (HB.out.cell (World.block_lt_of_cell? w _ hx289_1)).trans hx289_1; replace p289 := eq_true p289; replace q289 := eq_true q289; have hnb64 := NB280_274.out; have hnc64 := NB274_280.out; have hcz65_0 : w63.cell? ⟨gb280, 0, none⟩ = some (.int .i64 t275) := (blk_cell BK280.out 0).trans rfl; have hcz65_1 : w63.cell? ⟨gb280, 1, none⟩ = some (.int .i64 t276) := (blk_cell BK280.out 1).trans rfl; have hcz65_2 : w63.cell? ⟨gb280, 2, none⟩ = some (.int .i64 t277) := (blk_cell BK280.out 2).trans rfl; have hcz65_3 : w63.cell? ⟨gb280, 3, none⟩ = some (.int .i64 t278) := (blk_cell BK280.out 3).trans rfl; have hfz65_0 := blk_frozen BK280.out 0; have hfz65_1 := blk_frozen BK280.out 1; have hfz65_2 := blk_frozen BK280.out 2; have hfz65_3 := blk_frozen BK280.out 3; have p290 : 0 ≤ (x11_2 : Int) := of_decide_eq_true (by first | (with_reducible assumption) | assumption); have q290 : x11_2 < (l0.length : Int) := of_decide_eq_true (by first | (with_reducible assumption) | assumption); obtain ⟨ad290, e290, hx290_0, hx290_1⟩ := at_T30 HR0.out x11_2 p290 q290; obtain rfl : ad286 = ad290 := (by injection e290); replace hx290_0 := (HB.out.cell (World.block_lt_of_cell? w _ hx290_0)).trans hx290_0; replace hx290_1 := (HB.out.cell (World.block_lt_of_cell? w _ hx290_1)).trans hx290_1; replace p290 := eq_true p290; replace q290 := eq_true q290))
                   repeat (go_quiet (fail); try go_wp2)
                   go_roundg k2
                   case measure => have := HJ3.out; have := HK2.out; omega
                   case rel => exact ⟨(true), (((wrap64 (((rd_T30 l0 x11_2).f0) - t275)) == t277)), (((wrap64 (((rd_T30 l0 x11_2).f1) - t276)) == 0)), (((wrap64 (((rd_T30 l0 x11_2).f1) - t276)) == t278)), (wrap64 (x11_2 + 1)), (by first | rfl | (simp; done) | (simp [*]; done)), (by first | rfl | (simp; done) | (simp [*]; done)), (by first | rfl | (simp; done) | (simp [*]; done)), (by first | rfl | (simp; done) | (simp [*]; done)), (by first | rfl | (simp; done) | (simp [*]; done)), H', ⟨by have := HJ3.out; have := HK2.out; omega⟩, ⟨by (with_reducible repeat (first | refine blk_drewN ?_ _ | refine blk_drew ?_ | refine blk_alloc ?_ _)); exact BK274.out⟩, ⟨by (with_reducible repeat (first | refine blk_drewN ?_ _ | refine blk_drew ?_ | refine blk_alloc ?_ _)); exact BK280.out⟩, ⟨by repeat (first | (with_reducible first | exact HB.out | apply below_alloc | apply pw_below_drewN | apply below_drew1 | refine below_set ?_ GE274.out | refine below_set ?_ GE280.out) | exact HB.out)⟩⟩
              ·replace c34 := Bool.eq_false_iff.mpr c34
               subst c34
               have H1 : (if x8_2 = true then (if x9_2 = true then (if x10_2 = true then (garmentlaw11_PolygonCorners.l0 k2 l0 ((wrap64 (((rd_T30 l0 x11_2).f0) - t275)) == 0) true true true (wrap64 (x11_2 + 1)) a1_0 a1_1 t275 t276 t277 t278) else (garmentlaw11_PolygonCorners.l0 k2 l0 ((wrap64 (((rd_T30 l0 x11_2).f0) - t275)) == 0) true true ((wrap64 (((rd_T30 l0 x11_2).f1) - t276)) == t278) (wrap64 (x11_2 + 1)) a1_0 a1_1 t275 t276 t277 t278)) else (if x10_2 = true then (garmentlaw11_PolygonCorners.l0 k2 l0 ((wrap64 (((rd_T30 l0 x11_2).f0) - t275)) == 0) true ((wrap64 (((rd_T30 l0 x11_2).f1) - t276)) == 0) true (wrap64 (x11_2 + 1)) a1_0 a1_1 t275 t276 t277 t278) else (garmentlaw11_PolygonCorners.l0 k2 l0 ((wrap64 (((rd_T30 l0 x11_2).f0) - t275)) == 0) true ((wrap64 (((rd_T30 l0 x11_2).f1) - t276)) == 0) ((wrap64 (((rd_T30 l0 x11_2).f1) - t276)) == t278) (wrap64 (x11_2 + 1)) a1_0 a1_1 t275 t276 t277 t278))) else (if x9_2 = true then (if x10_2 = true then (garmentlaw11_PolygonCorners.l0 k2 l0 ((wrap64 (((rd_T30 l0 x11_2).f0) - t275)) == 0) ((wrap64 (((rd_T30 l0 x11_2).f0) - t275)) == t277) true true (wrap64 (x11_2 + 1)) a1_0 a1_1 t275 t276 t277 t278) else (garmentlaw11_PolygonCorners.l0 k2 l0 ((wrap64 (((rd_T30 l0 x11_2).f0) - t275)) == 0) ((wrap64 (((rd_T30 l0 x11_2).f0) - t275)) == t277) true ((wrap64 (((rd_T30 l0 x11_2).f1) - t276)) == t278) (wrap64 (x11_2 + 1)) a1_0 a1_1 t275 t276 t277 t278)) else (if x10_2 = true then (garmentlaw11_PolygonCorners.l0 k2 l0 ((wrap64 (((rd_T30 l0 x11_2).f0) - t275)) == 0) ((wrap64 (((rd_T30 l0 x11_2).f0) - t275)) == t277) ((wrap64 (((rd_T30 l0 x11_2).f1) - t276)) == 0) true (wrap64 (x11_2 + 1)) a1_0 a1_1 t275 t276 t277 t278) else (garmentlaw11_PolygonCorners.l0 k2 l0 ((wrap64 (((rd_T30 l0 x11_2).f0) - t275)) == 0) ((wrap64 (((rd_T30 l0 x11_2).f0) - t275)) == t277) ((wrap64 (((rd_T30 l0 x11_2).f1) - t276)) == 0) ((wrap64 (((rd_T30 l0 x11_2).f1) - t276)) == t278) (wrap64 (x11_2 + 1)) a1_0 a1_1 t275 t276 t277 t278)))) = some r := by rw [if_neg (show ¬ (false = true) by decide)] at H; exact H
               clear H
               have H := H1
               clear H1
               by_cases c66 : x8_2 = true
               ·subst c66
                have H1 : (if x9_2 = true then (if x10_2 = true then (garmentlaw11_PolygonCorners.l0 k2 l0 ((wrap64 (((rd_T30 l0 x11_2).f0) - t275)) == 0) true true true (wrap64 (x11_2 + 1)) a1_0 a1_1 t275 t276 t277 t278) else (garmentlaw11_PolygonCorners.l0 k2 l0 ((wrap64 (((rd_T30 l0 x11_2).f0) - t275)) == 0) true true ((wrap64 (((rd_T30 l0 x11_2).f1) - t276)) == t278) (wrap64 (x11_2 + 1)) a1_0 a1_1 t275 t276 t277 t278)) else (if x10_2 = true then (garmentlaw11_PolygonCorners.l0 k2 l0 ((wrap64 (((rd_T30 l0 x11_2).f0) - t275)) == 0) true ((wrap64 (((rd_T30 l0 x11_2).f1) - t276)) == 0) true (wrap64 (x11_2 + 1)) a1_0 a1_1 t275 t276 t277 t278) else (garmentlaw11_PolygonCorners.l0 k2 l0 ((wrap64 (((rd_T30 l0 x11_2).f0) - t275)) == 0) true ((wrap64 (((rd_T30 l0 x11_2).f1) - t276)) == 0) ((wrap64 (((rd_T30 l0 x11_2).f1) - t276)) == t278) (wrap64 (x11_2 + 1)) a1_0 a1_1 t275 t276 t277 t278))) = some r := by rw [if_pos rfl] at H; exact H
                clear H
                have H := H1
                clear H1
                by_cases c67 : x9_2 = true
                ·subst c67
                 have H1 : (if x10_2 = true then (garmentlaw11_PolygonCorners.l0 k2 l0 ((wrap64 (((rd_T30 l0 x11_2).f0) - t275)) == 0) true true true (wrap64 (x11_2 + 1)) a1_0 a1_1 t275 t276 t277 t278) else (garmentlaw11_PolygonCorners.l0 k2 l0 ((wrap64 (((rd_T30 l0 x11_2).f0) - t275)) == 0) true true ((wrap64 (((rd_T30 l0 x11_2).f1) - t276)) == t278) (wrap64 (x11_2 + 1)) a1_0 a1_1 t275 t276 t277 t278)) = some r := by rw [if_pos rfl] at H; exact H
                 clear H
                 have H := H1
                 clear H1
                 by_cases c68 : x10_2 = true
                 ·subst c68
                  have H1 : (garmentlaw11_PolygonCorners.l0 k2 l0 ((wrap64 (((rd_T30 l0 x11_2).f0) - t275)) == 0) true true true (wrap64 (x11_2 + 1)) a1_0 a1_1 t275 t276 t277 t278) = some r := by rw [if_pos rfl] at H; exact H
                  clear H
                  have H := H1
                  clear H1
                  as_aux_lemma =>
                   have H' := Aside0.mk H
                   clear H
                   have p286 : 0 ≤ (x11_2 : Int) := of_decide_eq_true (by first | (with_reducible assumption) | assumption)
                   have q286 : x11_2 < (l0.length : Int) := of_decide_eq_true (by first | (with_reducible assumption) | assumption)
                   obtain ⟨ad286, e286, hx286_0, hx286_1⟩ := at_T30 HR0.out x11_2 p286 q286
                   cases e286
                   replace hx286_0 := (HB.out.cell (World.block_lt_of_cell? w _ hx286_0)).trans hx286_0
                   replace hx286_1 := (HB.out.cell (World.block_lt_of_cell? w _ hx286_1)).trans hx286_1
                   replace p286 := eq_true p286
                   replace q286 := eq_true q286
                   go_wp2_with (first | (go_at_call 17; (with_reducible refine (polygon_Where.calls k2 _ _ l0 ((rd_T30 l0 x11_2).f0) ((rd_T30 l0 x11_2).f1) t287 t288 _ ?side1 ?side2 A27.out).mono ?_); (case side1 => repeat (first | exact (Kd.C_below HR0.out HB.out) | (with_reducible refine Kd.C_alloc ?_ _) | (with_reducible refine Kd.C_drewN ?_ _) | (with_reducible refine Kd.C_drew ?_))); (case side2 => exact HC0.out); rintro e w69 ⟨rfl, hb⟩; have n0_ := Aside0.mk (blk_below (g := gb274) (o := .cells #[.int .i64 a1_0, .int .i64 a1_1] 30 (0, 0)) (by (with_reducible repeat (first | refine blk_drewN ?_ _ | refine blk_drew ?_ | refine blk_alloc ?_ _)); exact BK274.out) hb); have n1_ := Aside0.mk (blk_below (g := gb280) (o := .cells #[.int .i64 t275, .int .i64 t276, .int .i64 t277, .int .i64 t278] 41 (0, 0)) (by (with_reducible repeat (first | refine blk_drewN ?_ _ | refine blk_drew ?_ | refine blk_alloc ?_ _)); exact BK280.out) hb); have n2_ := Aside0.mk (below_step (by repeat (first | exact HB.out | apply below_alloc | apply pw_below_drewN | apply below_drew1 | refine below_set ?_ GE274.out | refine below_set ?_ GE280.out)) hb); clear BK274; clear BK280; clear HB; have BK274 := n0_; have BK280 := n1_; have HB := n2_; clear n0_ n1_ n2_; (try clear hb); (try clear hb2); (try clear hk); (try clear hi); have p289 : 0 ≤ (x11_2 : Int) := of_decide_eq_true (by first | (with_reducible assumption) | assumption); have q289 : x11_2 < (l0.length : Int) := of_decide_eq_true (by first | (with_reducible assumption) | assumption); obtain ⟨ad289, e289, hx289_0, hx289_1⟩ := at_T30 HR0.out x11_2 p289 q289; obtain rfl : ad286 = ad289 := (by injection e289); replace hx289_0 := (HB.out.cell (World.block_lt_of_cell? w _ hx289_0)).trans hx289_0; replace hx289_1 := (HB.out.cell (World.block_lt_of_cell? w _ hx289_1)).trans hx289_1; replace p289 := eq_true p289; replace q289 := eq_true q289; have hnb70 := NB280_274.out; have hnc70 := NB274_280.out; have hcz71_0 : w69.cell? ⟨gb280, 0, none⟩ = some (.int .i64 t275) := (blk_cell BK280.out 0).trans rfl; have hcz71_1 : w69.cell? ⟨gb280, 1, none⟩ = some (.int .i64 t276) := (blk_cell BK280.out 1).trans rfl; have hcz71_2 : w69.cell? ⟨gb280, 2, none⟩ = some (.int .i64 t277) := (blk_cell BK280.out 2).trans rfl; have hcz71_3 : w69.cell? ⟨gb280, 3, none⟩ = some (.int .i64 t278) := (blk_cell BK280.out 3).trans rfl; have hfz71_0 := blk_frozen BK280.out 0; have hfz71_1 := blk_frozen BK280.out 1; have hfz71_2 := blk_frozen BK280.out 2; have hfz71_3 := blk_frozen BK280.out 3; have p290 : 0 ≤ (x11_2 : Int) := of_decide_eq_true (by first | (with_reducible assumption) | assumption); have q290 : x11_2 < (l0.length : Int) := of_decide_eq_true (by first | (with_reducible assumption) | assumption); obtain ⟨ad290, e290, hx290_0, hx290_1⟩ := at_T30 HR0.out x11_2 p290 q290; obtain rfl : ad286 = ad290 := (by injection e290); replace hx290_0 := (HB.out.cell (World.block_lt_of_cell? w _ hx290_0)).trans hx290_0; replace hx290_1 := (HB.out.cell (World.block_lt_of_cell? w _ hx290_1)).trans hx290_1; replace p290 := eq_true p290; replace q290 := eq_true q290))
                   repeat (go_quiet (fail); try go_wp2)
                   go_roundg k2
                   case measure => have := HJ3.out; have := HK2.out; omega
                   case rel => exact ⟨(((wrap64 (((rd_T30 l0 x11_2).f0) - t275)) == 0)), (true), (true), (true), (wrap64 (x11_2 + 1)), (by first | rfl | (simp; done) | (simp [*]; done)), (by first | rfl | (simp; done) | (simp [*]; done)), (by first | rfl | (simp; done) | (simp [*]; done)), (by first | rfl | (simp; done) | (simp [*]; done)), (by first | rfl | (simp; done) | (simp [*]; done)), H', ⟨by have := HJ3.out; have := HK2.out; omega⟩, ⟨by (with_reducible repeat (first | refine blk_drewN ?_ _ | refine blk_drew ?_ | refine blk_alloc ?_ _)); exact BK274.out⟩, ⟨by (with_reducible repeat (first | refine blk_drewN ?_ _ | refine blk_drew ?_ | refine blk_alloc ?_ _)); exact BK280.out⟩, ⟨by repeat (first | (with_reducible first | exact HB.out | apply below_alloc | apply pw_below_drewN | apply below_drew1 | refine below_set ?_ GE274.out | refine below_set ?_ GE280.out) | exact HB.out)⟩⟩
                 ·replace c68 := Bool.eq_false_iff.mpr c68
                  subst c68
                  have H1 : (garmentlaw11_PolygonCorners.l0 k2 l0 ((wrap64 (((rd_T30 l0 x11_2).f0) - t275)) == 0) true true ((wrap64 (((rd_T30 l0 x11_2).f1) - t276)) == t278) (wrap64 (x11_2 + 1)) a1_0 a1_1 t275 t276 t277 t278) = some r := by rw [if_neg (show ¬ (false = true) by decide)] at H; exact H
                  clear H
                  have H := H1
                  clear H1
                  as_aux_lemma =>
                   have H' := Aside0.mk H
                   clear H
                   have p286 : 0 ≤ (x11_2 : Int) := of_decide_eq_true (by first | (with_reducible assumption) | assumption)
                   have q286 : x11_2 < (l0.length : Int) := of_decide_eq_true (by first | (with_reducible assumption) | assumption)
                   obtain ⟨ad286, e286, hx286_0, hx286_1⟩ := at_T30 HR0.out x11_2 p286 q286
                   cases e286
                   replace hx286_0 := (HB.out.cell (World.block_lt_of_cell? w _ hx286_0)).trans hx286_0
                   replace hx286_1 := (HB.out.cell (World.block_lt_of_cell? w _ hx286_1)).trans hx286_1
                   replace p286 := eq_true p286
                   replace q286 := eq_true q286
                   go_wp2_with (first | (go_at_call 17; (with_reducible refine (polygon_Where.calls k2 _ _ l0 ((rd_T30 l0 x11_2).f0) ((rd_T30 l0 x11_2).f1) t287 t288 _ ?side1 ?side2 A27.out).mono ?_); (case side1 => repeat (first | exact (Kd.C_below HR0.out HB.out) | (with_reducible refine Kd.C_alloc ?_ _) | (with_reducible refine Kd.C_drewN ?_ _) | (with_reducible refine Kd.C_drew ?_))); (case side2 => exact HC0.out); rintro e w72 ⟨rfl, hb⟩; have n0_ := Aside0.mk (blk_below (g := gb274) (o := .cells #[.int .i64 a1_0, .int .i64 a1_1] 30 (0, 0)) (by (with_reducible repeat (first | refine blk_drewN ?_ _ | refine blk_drew ?_ | refine blk_alloc ?_ _)); exact BK274.out) hb); have n1_ := Aside0.mk (blk_below (g := gb280) (o := .cells #[.int .i64 t275, .int .i64 t276, .int .i64 t277, .int .i64 t278] 41 (0, 0)) (by (with_reducible repeat (first | refine blk_drewN ?_ _ | refine blk_drew ?_ | refine blk_alloc ?_ _)); exact BK280.out) hb); have n2_ := Aside0.mk (below_step (by repeat (first | exact HB.out | apply below_alloc | apply pw_below_drewN | apply below_drew1 | refine below_set ?_ GE274.out | refine below_set ?_ GE280.out)) hb); clear BK274; clear BK280; clear HB; have BK274 := n0_; have BK280 := n1_; have HB := n2_; clear n0_ n1_ n2_; (try clear hb); (try clear hb2); (try clear hk); (try clear hi); have p289 : 0 ≤ (x11_2 : Int) := of_decide_eq_true (by first | (with_reducible assumption) | assumption); have q289 : x11_2 < (l0.length : Int) := of_decide_eq_true (by first | (with_reducible assumption) | assumption); obtain ⟨ad289, e289, hx289_0, hx289_1⟩ := at_T30 HR0.out x11_2 p289 q289; obtain rfl : ad286 = ad289 := (by injection e289); replace hx289_0 := (HB.out.cell (World.block_lt_of_cell? w _ hx289_0)).trans hx289_0; replace hx289_1 := (HB.out.cell (World.block_lt_of_cell? w _ hx289_1)).trans hx289_1; replace p289 := eq_true p289; replace q289 := eq_true q289; have hnb73 := NB280_274.out; have hnc73 := NB274_280.out; have hcz74_0 : w72.cell? ⟨gb280, 0, none⟩ = some (.int .i64 t275) := (blk_cell BK280.out 0).trans rfl; have hcz74_1 : w72.cell? ⟨gb280, 1, none⟩ = some (.int .i64 t276) := (blk_cell BK280.out 1).trans rfl; have hcz74_2 : w72.cell? ⟨gb280, 2, none⟩ = some (.int .i64 t277) := (blk_cell BK280.out 2).trans rfl; have hcz74_3 : w72.cell? ⟨gb280, 3, none⟩ = some (.int .i64 t278) := (blk_cell BK280.out 3).trans rfl; have hfz74_0 := blk_frozen BK280.out 0; have hfz74_1 := blk_frozen BK280.out 1; have hfz74_2 := blk_frozen BK280.out 2; have hfz74_3 := blk_frozen BK280.out 3; have p290 : 0 ≤ (x11_2 : Int) := of_decide_eq_true (by first | (with_reducible assumption) | assumption); have q290 : x11_2 < (l0.length : Int) := of_decide_eq_true (by first | (with_reducible assumption) | assumption); obtain ⟨ad290, e290, hx290_0, hx290_1⟩ := at_T30 HR0.out x11_2 p290 q290; obtain rfl : ad286 = ad290 := (by injection e290); replace hx290_0 := (HB.out.cell (World.block_lt_of_cell? w _ hx290_0)).trans hx290_0; replace hx290_1 := (HB.out.cell (World.block_lt_of_cell? w _ hx290_1)).trans hx290_1; replace p290 := eq_true p290; replace q290 := eq_true q290))
                   repeat (go_quiet (fail); try go_wp2)
                   go_roundg k2
                   case measure => have := HJ3.out; have := HK2.out; omega
                   case rel => exact ⟨(((wrap64 (((rd_T30 l0 x11_2).f0) - t275)) == 0)), (true), (true), (((wrap64 (((rd_T30 l0 x11_2).f1) - t276)) == t278)), (wrap64 (x11_2 + 1)), (by first | rfl | (simp; done) | (simp [*]; done)), (by first | rfl | (simp; done) | (simp [*]; done)), (by first | rfl | (simp; done) | (simp [*]; done)), (by first | rfl | (simp; done) | (simp [*]; done)), (by first | rfl | (simp; done) | (simp [*]; done)), H', ⟨by have := HJ3.out; have := HK2.out; omega⟩, ⟨by (with_reducible repeat (first | refine blk_drewN ?_ _ | refine blk_drew ?_ | refine blk_alloc ?_ _)); exact BK274.out⟩, ⟨by (with_reducible repeat (first | refine blk_drewN ?_ _ | refine blk_drew ?_ | refine blk_alloc ?_ _)); exact BK280.out⟩, ⟨by repeat (first | (with_reducible first | exact HB.out | apply below_alloc | apply pw_below_drewN | apply below_drew1 | refine below_set ?_ GE274.out | refine below_set ?_ GE280.out) | exact HB.out)⟩⟩
                ·replace c67 := Bool.eq_false_iff.mpr c67
                 subst c67
                 have H1 : (if x10_2 = true then (garmentlaw11_PolygonCorners.l0 k2 l0 ((wrap64 (((rd_T30 l0 x11_2).f0) - t275)) == 0) true ((wrap64 (((rd_T30 l0 x11_2).f1) - t276)) == 0) true (wrap64 (x11_2 + 1)) a1_0 a1_1 t275 t276 t277 t278) else (garmentlaw11_PolygonCorners.l0 k2 l0 ((wrap64 (((rd_T30 l0 x11_2).f0) - t275)) == 0) true ((wrap64 (((rd_T30 l0 x11_2).f1) - t276)) == 0) ((wrap64 (((rd_T30 l0 x11_2).f1) - t276)) == t278) (wrap64 (x11_2 + 1)) a1_0 a1_1 t275 t276 t277 t278)) = some r := by rw [if_neg (show ¬ (false = true) by decide)] at H; exact H
                 clear H
                 have H := H1
                 clear H1
                 by_cases c75 : x10_2 = true
                 ·subst c75
                  have H1 : (garmentlaw11_PolygonCorners.l0 k2 l0 ((wrap64 (((rd_T30 l0 x11_2).f0) - t275)) == 0) true ((wrap64 (((rd_T30 l0 x11_2).f1) - t276)) == 0) true (wrap64 (x11_2 + 1)) a1_0 a1_1 t275 t276 t277 t278) = some r := by rw [if_pos rfl] at H; exact H
                  clear H
                  have H := H1
                  clear H1
                  as_aux_lemma =>
                   have H' := Aside0.mk H
                   clear H
                   have p286 : 0 ≤ (x11_2 : Int) := of_decide_eq_true (by first | (with_reducible assumption) | assumption)
                   have q286 : x11_2 < (l0.length : Int) := of_decide_eq_true (by first | (with_reducible assumption) | assumption)
                   obtain ⟨ad286, e286, hx286_0, hx286_1⟩ := at_T30 HR0.out x11_2 p286 q286
                   cases e286
                   replace hx286_0 := (HB.out.cell (World.block_lt_of_cell? w _ hx286_0)).trans hx286_0
                   replace hx286_1 := (HB.out.cell (World.block_lt_of_cell? w _ hx286_1)).trans hx286_1
                   replace p286 := eq_true p286
                   replace q286 := eq_true q286
                   go_wp2_with (first | (go_at_call 17; (with_reducible refine (polygon_Where.calls k2 _ _ l0 ((rd_T30 l0 x11_2).f0) ((rd_T30 l0 x11_2).f1) t287 t288 _ ?side1 ?side2 A27.out).mono ?_); (case side1 => repeat (first | exact (Kd.C_below HR0.out HB.out) | (with_reducible refine Kd.C_alloc ?_ _) | (with_reducible refine Kd.C_drewN ?_ _) | (with_reducible refine Kd.C_drew ?_))); (case side2 => exact HC0.out); rintro e w76 ⟨rfl, hb⟩; have n0_ := Aside0.mk (blk_below (g := gb274) (o := .cells #[.int .i64 a1_0, .int .i64 a1_1] 30 (0, 0)) (by (with_reducible repeat (first | refine blk_drewN ?_ _ | refine blk_drew ?_ | refine blk_alloc ?_ _)); exact BK274.out) hb); have n1_ := Aside0.mk (blk_below (g := gb280) (o := .cells #[.int .i64 t275, .int .i64 t276, .int .i64 t277, .int .i64 t278] 41 (0, 0)) (by (with_reducible repeat (first | refine blk_drewN ?_ _ | refine blk_drew ?_ | refine blk_alloc ?_ _)); exact BK280.out) hb); have n2_ := Aside0.mk (below_step (by repeat (first | exact HB.out | apply below_alloc | apply pw_below_drewN | apply below_drew1 | refine below_set ?_ GE274.out | refine below_set ?_ GE280.out)) hb); clear BK274; clear BK280; clear HB; have BK274 := n0_; have BK280 := n1_; have HB := n2_; clear n0_ n1_ n2_; (try clear hb); (try clear hb2); (try clear hk); (try clear hi); have p289 : 0 ≤ (x11_2 : Int) := of_decide_eq_true (by first | (with_reducible assumption) | assumption); have q289 : x11_2 < (l0.length : Int) := of_decide_eq_true (by first | (with_reducible assumption) | assumption); obtain ⟨ad289, e289, hx289_0, hx289_1⟩ := at_T30 HR0.out x11_2 p289 q289; obtain rfl : ad286 = ad289 := (by injection e289); replace hx289_0 := (HB.out.cell (World.block_lt_of_cell? w _ hx289_0)).trans hx289_0; replace hx289_1 := (HB.out.cell (World.block_lt_of_cell? w _ hx289_1)).trans hx289_1; replace p289 := eq_true p289; replace q289 := eq_true q289; have hnb77 := NB280_274.out; have hnc77 := NB274_280.out; have hcz78_0 : w76.cell? ⟨gb280, 0, none⟩ = some (.int .i64 t275) := (blk_cell BK280.out 0).trans rfl; have hcz78_1 : w76.cell? ⟨gb280, 1, none⟩ = some (.int .i64 t276) := (blk_cell BK280.out 1).trans rfl; have hcz78_2 : w76.cell? ⟨gb280, 2, none⟩ = some (.int .i64 t277) := (blk_cell BK280.out 2).trans rfl; have hcz78_3 : w76.cell? ⟨gb280, 3, none⟩ = some (.int .i64 t278) := (blk_cell BK280.out 3).trans rfl; have hfz78_0 := blk_frozen BK280.out 0; have hfz78_1 := blk_frozen BK280.out 1; have hfz78_2 := blk_frozen BK280.out 2; have hfz78_3 := blk_frozen BK280.out 3; have p290 : 0 ≤ (x11_2 : Int) := of_decide_eq_true (by first | (with_reducible assumption) | assumption); have q290 : x11_2 < (l0.length : Int) := of_decide_eq_true (by first | (with_reducible assumption) | assumption); obtain ⟨ad290, e290, hx290_0, hx290_1⟩ := at_T30 HR0.out x11_2 p290 q290; obtain rfl : ad286 = ad290 := (by injection e290); replace hx290_0 := (HB.out.cell (World.block_lt_of_cell? w _ hx290_0)).trans hx290_0; replace hx290_1 := (HB.out.cell (World.block_lt_of_cell? w _ hx290_1)).trans hx290_1; replace p290 := eq_true p290; replace q290 := eq_true q290))
                   repeat (go_quiet (fail); try go_wp2)
                   go_roundg k2
                   case measure => have := HJ3.out; have := HK2.out; omega
                   case rel => exact ⟨(((wrap64 (((rd_T30 l0 x11_2).f0) - t275)) == 0)), (true), (((wrap64 (((rd_T30 l0 x11_2).f1) - t276)) == 0)), (true), (wrap64 (x11_2 + 1)), (by first | rfl | (simp; done) | (simp [*]; done)), (by first | rfl | (simp; done) | (simp [*]; done)), (by first | rfl | (simp; done) | (simp [*]; done)), (by first | rfl | (simp; done) | (simp [*]; done)), (by first | rfl | (simp; done) | (simp [*]; done)), H', ⟨by have := HJ3.out; have := HK2.out; omega⟩, ⟨by (with_reducible repeat (first | refine blk_drewN ?_ _ | refine blk_drew ?_ | refine blk_alloc ?_ _)); exact BK274.out⟩, ⟨by (with_reducible repeat (first | refine blk_drewN ?_ _ | refine blk_drew ?_ | refine blk_alloc ?_ _)); exact BK280.out⟩, ⟨by repeat (first | (with_reducible first | exact HB.out | apply below_alloc | apply pw_below_drewN | apply below_drew1 | refine below_set ?_ GE274.out | refine below_set ?_ GE280.out) | exact HB.out)⟩⟩
                 ·replace c75 := Bool.eq_false_iff.mpr c75
                  subst c75
                  have H1 : (garmentlaw11_PolygonCorners.l0 k2 l0 ((wrap64 (((rd_T30 l0 x11_2).f0) - t275)) == 0) true ((wrap64 (((rd_T30 l0 x11_2).f1) - t276)) == 0) ((wrap64 (((rd_T30 l0 x11_2).f1) - t276)) == t278) (wrap64 (x11_2 + 1)) a1_0 a1_1 t275 t276 t277 t278) = some r := by rw [if_neg (show ¬ (false = true) by decide)] at H; exact H
                  clear H
                  have H := H1
                  clear H1
                  as_aux_lemma =>
                   have H' := Aside0.mk H
                   clear H
                   have p286 : 0 ≤ (x11_2 : Int) := of_decide_eq_true (by first | (with_reducible assumption) | assumption)
                   have q286 : x11_2 < (l0.length : Int) := of_decide_eq_true (by first | (with_reducible assumption) | assumption)
                   obtain ⟨ad286, e286, hx286_0, hx286_1⟩ := at_T30 HR0.out x11_2 p286 q286
                   cases e286
                   replace hx286_0 := (HB.out.cell (World.block_lt_of_cell? w _ hx286_0)).trans hx286_0
                   replace hx286_1 := (HB.out.cell (World.block_lt_of_cell? w _ hx286_1)).trans hx286_1
                   replace p286 := eq_true p286
                   replace q286 := eq_true q286
                   go_wp2_with (first | (go_at_call 17; (with_reducible refine (polygon_Where.calls k2 _ _ l0 ((rd_T30 l0 x11_2).f0) ((rd_T30 l0 x11_2).f1) t287 t288 _ ?side1 ?side2 A27.out).mono ?_); (case side1 => repeat (first | exact (Kd.C_below HR0.out HB.out) | (with_reducible refine Kd.C_alloc ?_ _) | (with_reducible refine Kd.C_drewN ?_ _) | (with_reducible refine Kd.C_drew ?_))); (case side2 => exact HC0.out); rintro e w79 ⟨rfl, hb⟩; have n0_ := Aside0.mk (blk_below (g := gb274) (o := .cells #[.int .i64 a1_0, .int .i64 a1_1] 30 (0, 0)) (by (with_reducible repeat (first | refine blk_drewN ?_ _ | refine blk_drew ?_ | refine blk_alloc ?_ _)); exact BK274.out) hb); have n1_ := Aside0.mk (blk_below (g := gb280) (o := .cells #[.int .i64 t275, .int .i64 t276, .int .i64 t277, .int .i64 t278] 41 (0, 0)) (by (with_reducible repeat (first | refine blk_drewN ?_ _ | refine blk_drew ?_ | refine blk_alloc ?_ _)); exact BK280.out) hb); have n2_ := Aside0.mk (below_step (by repeat (first | exact HB.out | apply below_alloc | apply pw_below_drewN | apply below_drew1 | refine below_set ?_ GE274.out | refine below_set ?_ GE280.out)) hb); clear BK274; clear BK280; clear HB; have BK274 := n0_; have BK280 := n1_; have HB := n2_; clear n0_ n1_ n2_; (try clear hb); (try clear hb2); (try clear hk); (try clear hi); have p289 : 0 ≤ (x11_2 : Int) := of_decide_eq_true (by first | (with_reducible assumption) | assumption); have q289 : x11_2 < (l0.length : Int) := of_decide_eq_true (by first | (with_reducible assumption) | assumption); obtain ⟨ad289, e289, hx289_0, hx289_1⟩ := at_T30 HR0.out x11_2 p289 q289; obtain rfl : ad286 = ad289 := (by injection e289); replace hx289_0 := (HB.out.cell (World.block_lt_of_cell? w _ hx289_0)).trans hx289_0; replace hx289_1 := (HB.out.cell (World.block_lt_of_cell? w _ hx289_1)).trans hx289_1; replace p289 := eq_true p289; replace q289 := eq_true q289; have hnb80 := NB280_274.out; have hnc80 := NB274_280.out; have hcz81_0 : w79.cell? ⟨gb280, 0, none⟩ = some (.int .i64 t275) := (blk_cell BK280.out 0).trans rfl; have hcz81_1 : w79.cell? ⟨gb280, 1, none⟩ = some (.int .i64 t276) := (blk_cell BK280.out 1).trans rfl; have hcz81_2 : w79.cell? ⟨gb280, 2, none⟩ = some (.int .i64 t277) := (blk_cell BK280.out 2).trans rfl; have hcz81_3 : w79.cell? ⟨gb280, 3, none⟩ = some (.int .i64 t278) := (blk_cell BK280.out 3).trans rfl; have hfz81_0 := blk_frozen BK280.out 0; have hfz81_1 := blk_frozen BK280.out 1; have hfz81_2 := blk_frozen BK280.out 2; have hfz81_3 := blk_frozen BK280.out 3; have p290 : 0 ≤ (x11_2 : Int) := of_decide_eq_true (by first | (with_reducible assumption) | assumption); have q290 : x11_2 < (l0.length : Int) := of_decide_eq_true (by first | (with_reducible assumption) | assumption); obtain ⟨ad290, e290, hx290_0, hx290_1⟩ := at_T30 HR0.out x11_2 p290 q290; obtain rfl : ad286 = ad290 := (by injection e290); replace hx290_0 := (HB.out.cell (World.block_lt_of_cell? w _ hx290_0)).trans hx290_0; replace hx290_1 := (HB.out.cell (World.block_lt_of_cell? w _ hx290_1)).trans hx290_1; replace p290 := eq_true p290; replace q290 := eq_true q290))
                   repeat (go_quiet (fail); try go_wp2)
                   go_roundg k2
                   case measure => have := HJ3.out; have := HK2.out; omega
                   case rel => exact ⟨(((wrap64 (((rd_T30 l0 x11_2).f0) - t275)) == 0)), (true), (((wrap64 (((rd_T30 l0 x11_2).f1) - t276)) == 0)), (((wrap64 (((rd_T30 l0 x11_2).f1) - t276)) == t278)), (wrap64 (x11_2 + 1)), (by first | rfl | (simp; done) | (simp [*]; done)), (by first | rfl | (simp; done) | (simp [*]; done)), (by first | rfl | (simp; done) | (simp [*]; done)), (by first | rfl | (simp; done) | (simp [*]; done)), (by first | rfl | (simp; done) | (simp [*]; done)), H', ⟨by have := HJ3.out; have := HK2.out; omega⟩, ⟨by (with_reducible repeat (first | refine blk_drewN ?_ _ | refine blk_drew ?_ | refine blk_alloc ?_ _)); exact BK274.out⟩, ⟨by (with_reducible repeat (first | refine blk_drewN ?_ _ | refine blk_drew ?_ | refine blk_alloc ?_ _)); exact BK280.out⟩, ⟨by repeat (first | (with_reducible first | exact HB.out | apply below_alloc | apply pw_below_drewN | apply below_drew1 | refine below_set ?_ GE274.out | refine below_set ?_ GE280.out) | exact HB.out)⟩⟩
               ·replace c66 := Bool.eq_false_iff.mpr c66
                subst c66
                have H1 : (if x9_2 = true then (if x10_2 = true then (garmentlaw11_PolygonCorners.l0 k2 l0 ((wrap64 (((rd_T30 l0 x11_2).f0) - t275)) == 0) ((wrap64 (((rd_T30 l0 x11_2).f0) - t275)) == t277) true true (wrap64 (x11_2 + 1)) a1_0 a1_1 t275 t276 t277 t278) else (garmentlaw11_PolygonCorners.l0 k2 l0 ((wrap64 (((rd_T30 l0 x11_2).f0) - t275)) == 0) ((wrap64 (((rd_T30 l0 x11_2).f0) - t275)) == t277) true ((wrap64 (((rd_T30 l0 x11_2).f1) - t276)) == t278) (wrap64 (x11_2 + 1)) a1_0 a1_1 t275 t276 t277 t278)) else (if x10_2 = true then (garmentlaw11_PolygonCorners.l0 k2 l0 ((wrap64 (((rd_T30 l0 x11_2).f0) - t275)) == 0) ((wrap64 (((rd_T30 l0 x11_2).f0) - t275)) == t277) ((wrap64 (((rd_T30 l0 x11_2).f1) - t276)) == 0) true (wrap64 (x11_2 + 1)) a1_0 a1_1 t275 t276 t277 t278) else (garmentlaw11_PolygonCorners.l0 k2 l0 ((wrap64 (((rd_T30 l0 x11_2).f0) - t275)) == 0) ((wrap64 (((rd_T30 l0 x11_2).f0) - t275)) == t277) ((wrap64 (((rd_T30 l0 x11_2).f1) - t276)) == 0) ((wrap64 (((rd_T30 l0 x11_2).f1) - t276)) == t278) (wrap64 (x11_2 + 1)) a1_0 a1_1 t275 t276 t277 t278))) = some r := by rw [if_neg (show ¬ (false = true) by decide)] at H; exact H
                clear H
                have H := H1
                clear H1
                by_cases c82 : x9_2 = true
                ·subst c82
                 have H1 : (if x10_2 = true then (garmentlaw11_PolygonCorners.l0 k2 l0 ((wrap64 (((rd_T30 l0 x11_2).f0) - t275)) == 0) ((wrap64 (((rd_T30 l0 x11_2).f0) - t275)) == t277) true true (wrap64 (x11_2 + 1)) a1_0 a1_1 t275 t276 t277 t278) else (garmentlaw11_PolygonCorners.l0 k2 l0 ((wrap64 (((rd_T30 l0 x11_2).f0) - t275)) == 0) ((wrap64 (((rd_T30 l0 x11_2).f0) - t275)) == t277) true ((wrap64 (((rd_T30 l0 x11_2).f1) - t276)) == t278) (wrap64 (x11_2 + 1)) a1_0 a1_1 t275 t276 t277 t278)) = some r := by rw [if_pos rfl] at H; exact H
                 clear H
                 have H := H1
                 clear H1
                 by_cases c83 : x10_2 = true
                 ·subst c83
                  have H1 : (garmentlaw11_PolygonCorners.l0 k2 l0 ((wrap64 (((rd_T30 l0 x11_2).f0) - t275)) == 0) ((wrap64 (((rd_T30 l0 x11_2).f0) - t275)) == t277) true true (wrap64 (x11_2 + 1)) a1_0 a1_1 t275 t276 t277 t278) = some r := by rw [if_pos rfl] at H; exact H
                  clear H
                  have H := H1
                  clear H1
                  as_aux_lemma =>
                   have H' := Aside0.mk H
                   clear H
                   have p286 : 0 ≤ (x11_2 : Int) := of_decide_eq_true (by first | (with_reducible assumption) | assumption)
                   have q286 : x11_2 < (l0.length : Int) := of_decide_eq_true (by first | (with_reducible assumption) | assumption)
                   obtain ⟨ad286, e286, hx286_0, hx286_1⟩ := at_T30 HR0.out x11_2 p286 q286
                   cases e286
                   replace hx286_0 := (HB.out.cell (World.block_lt_of_cell? w _ hx286_0)).trans hx286_0
                   replace hx286_1 := (HB.out.cell (World.block_lt_of_cell? w _ hx286_1)).trans hx286_1
                   replace p286 := eq_true p286
                   replace q286 := eq_true q286
                   go_wp2_with (first | (go_at_call 17; (with_reducible refine (polygon_Where.calls k2 _ _ l0 ((rd_T30 l0 x11_2).f0) ((rd_T30 l0 x11_2).f1) t287 t288 _ ?side1 ?side2 A27.out).mono ?_); (case side1 => repeat (first | exact (Kd.C_below HR0.out HB.out) | (with_reducible refine Kd.C_alloc ?_ _) | (with_reducible refine Kd.C_drewN ?_ _) | (with_reducible refine Kd.C_drew ?_))); (case side2 => exact HC0.out); rintro e w84 ⟨rfl, hb⟩; have n0_ := Aside0.mk (blk_below (g := gb274) (o := .cells #[.int .i64 a1_0, .int .i64 a1_1] 30 (0, 0)) (by (with_reducible repeat (first | refine blk_drewN ?_ _ | refine blk_drew ?_ | refine blk_alloc ?_ _)); exact BK274.out) hb); have n1_ := Aside0.mk (blk_below (g := gb280) (o := .cells #[.int .i64 t275, .int .i64 t276, .int .i64 t277, .int .i64 t278] 41 (0, 0)) (by (with_reducible repeat (first | refine blk_drewN ?_ _ | refine blk_drew ?_ | refine blk_alloc ?_ _)); exact BK280.out) hb); have n2_ := Aside0.mk (below_step (by repeat (first | exact HB.out | apply below_alloc | apply pw_below_drewN | apply below_drew1 | refine below_set ?_ GE274.out | refine below_set ?_ GE280.out)) hb); clear BK274; clear BK280; clear HB; have BK274 := n0_; have BK280 := n1_; have HB := n2_; clear n0_ n1_ n2_; (try clear hb); (try clear hb2); (try clear hk); (try clear hi); have p289 : 0 ≤ (x11_2 : Int) := of_decide_eq_true (by first | (with_reducible assumption) | assumption); have q289 : x11_2 < (l0.length : Int) := of_decide_eq_true (by first | (with_reducible assumption) | assumption); obtain ⟨ad289, e289, hx289_0, hx289_1⟩ := at_T30 HR0.out x11_2 p289 q289; obtain rfl : ad286 = ad289 := (by injection e289); replace hx289_0 := (HB.out.cell (World.block_lt_of_cell? w _ hx289_0)).trans hx289_0; replace hx289_1 := (HB.out.cell (World.block_lt_of_cell? w _ hx289_1)).trans hx289_1; replace p289 := eq_true p289; replace q289 := eq_true q289; have hnb85 := NB280_274.out; have hnc85 := NB274_280.out; have hcz86_0 : w84.cell? ⟨gb280, 0, none⟩ = some (.int .i64 t275) := (blk_cell BK280.out 0).trans rfl; have hcz86_1 : w84.cell? ⟨gb280, 1, none⟩ = some (.int .i64 t276) := (blk_cell BK280.out 1).trans rfl; have hcz86_2 : w84.cell? ⟨gb280, 2, none⟩ = some (.int .i64 t277) := (blk_cell BK280.out 2).trans rfl; have hcz86_3 : w84.cell? ⟨gb280, 3, none⟩ = some (.int .i64 t278) := (blk_cell BK280.out 3).trans rfl; have hfz86_0 := blk_frozen BK280.out 0; have hfz86_1 := blk_frozen BK280.out 1; have hfz86_2 := blk_frozen BK280.out 2; have hfz86_3 := blk_frozen BK280.out 3; have p290 : 0 ≤ (x11_2 : Int) := of_decide_eq_true (by first | (with_reducible assumption) | assumption); have q290 : x11_2 < (l0.length : Int) := of_decide_eq_true (by first | (with_reducible assumption) | assumption); obtain ⟨ad290, e290, hx290_0, hx290_1⟩ := at_T30 HR0.out x11_2 p290 q290; obtain rfl : ad286 = ad290 := (by injection e290); replace hx290_0 := (HB.out.cell (World.block_lt_of_cell? w _ hx290_0)).trans hx290_0; replace hx290_1 := (HB.out.cell (World.block_lt_of_cell? w _ hx290_1)).trans hx290_1; replace p290 := eq_true p290; replace q290 := eq_true q290))
                   repeat (go_quiet (fail); try go_wp2)
                   go_roundg k2
                   case measure => have := HJ3.out; have := HK2.out; omega
                   case rel => exact ⟨(((wrap64 (((rd_T30 l0 x11_2).f0) - t275)) == 0)), (((wrap64 (((rd_T30 l0 x11_2).f0) - t275)) == t277)), (true), (true), (wrap64 (x11_2 + 1)), (by first | rfl | (simp; done) | (simp [*]; done)), (by first | rfl | (simp; done) | (simp [*]; done)), (by first | rfl | (simp; done) | (simp [*]; done)), (by first | rfl | (simp; done) | (simp [*]; done)), (by first | rfl | (simp; done) | (simp [*]; done)), H', ⟨by have := HJ3.out; have := HK2.out; omega⟩, ⟨by (with_reducible repeat (first | refine blk_drewN ?_ _ | refine blk_drew ?_ | refine blk_alloc ?_ _)); exact BK274.out⟩, ⟨by (with_reducible repeat (first | refine blk_drewN ?_ _ | refine blk_drew ?_ | refine blk_alloc ?_ _)); exact BK280.out⟩, ⟨by repeat (first | (with_reducible first | exact HB.out | apply below_alloc | apply pw_below_drewN | apply below_drew1 | refine below_set ?_ GE274.out | refine below_set ?_ GE280.out) | exact HB.out)⟩⟩
                 ·replace c83 := Bool.eq_false_iff.mpr c83
                  subst c83
                  have H1 : (garmentlaw11_PolygonCorners.l0 k2 l0 ((wrap64 (((rd_T30 l0 x11_2).f0) - t275)) == 0) ((wrap64 (((rd_T30 l0 x11_2).f0) - t275)) == t277) true ((wrap64 (((rd_T30 l0 x11_2).f1) - t276)) == t278) (wrap64 (x11_2 + 1)) a1_0 a1_1 t275 t276 t277 t278) = some r := by rw [if_neg (show ¬ (false = true) by decide)] at H; exact H
                  clear H
                  have H := H1
                  clear H1
                  as_aux_lemma =>
                   have H' := Aside0.mk H
                   clear H
                   have p286 : 0 ≤ (x11_2 : Int) := of_decide_eq_true (by first | (with_reducible assumption) | assumption)
                   have q286 : x11_2 < (l0.length : Int) := of_decide_eq_true (by first | (with_reducible assumption) | assumption)
                   obtain ⟨ad286, e286, hx286_0, hx286_1⟩ := at_T30 HR0.out x11_2 p286 q286
                   cases e286
                   replace hx286_0 := (HB.out.cell (World.block_lt_of_cell? w _ hx286_0)).trans hx286_0
                   replace hx286_1 := (HB.out.cell (World.block_lt_of_cell? w _ hx286_1)).trans hx286_1
                   replace p286 := eq_true p286
                   replace q286 := eq_true q286
                   go_wp2_with (first | (go_at_call 17; (with_reducible refine (polygon_Where.calls k2 _ _ l0 ((rd_T30 l0 x11_2).f0) ((rd_T30 l0 x11_2).f1) t287 t288 _ ?side1 ?side2 A27.out).mono ?_); (case side1 => repeat (first | exact (Kd.C_below HR0.out HB.out) | (with_reducible refine Kd.C_alloc ?_ _) | (with_reducible refine Kd.C_drewN ?_ _) | (with_reducible refine Kd.C_drew ?_))); (case side2 => exact HC0.out); rintro e w87 ⟨rfl, hb⟩; have n0_ := Aside0.mk (blk_below (g := gb274) (o := .cells #[.int .i64 a1_0, .int .i64 a1_1] 30 (0, 0)) (by (with_reducible repeat (first | refine blk_drewN ?_ _ | refine blk_drew ?_ | refine blk_alloc ?_ _)); exact BK274.out) hb); have n1_ := Aside0.mk (blk_below (g := gb280) (o := .cells #[.int .i64 t275, .int .i64 t276, .int .i64 t277, .int .i64 t278] 41 (0, 0)) (by (with_reducible repeat (first | refine blk_drewN ?_ _ | refine blk_drew ?_ | refine blk_alloc ?_ _)); exact BK280.out) hb); have n2_ := Aside0.mk (below_step (by repeat (first | exact HB.out | apply below_alloc | apply pw_below_drewN | apply below_drew1 | refine below_set ?_ GE274.out | refine below_set ?_ GE280.out)) hb); clear BK274; clear BK280; clear HB; have BK274 := n0_; have BK280 := n1_; have HB := n2_; clear n0_ n1_ n2_; (try clear hb); (try clear hb2); (try clear hk); (try clear hi); have p289 : 0 ≤ (x11_2 : Int) := of_decide_eq_true (by first | (with_reducible assumption) | assumption); have q289 : x11_2 < (l0.length : Int) := of_decide_eq_true (by first | (with_reducible assumption) | assumption); obtain ⟨ad289, e289, hx289_0, hx289_1⟩ := at_T30 HR0.out x11_2 p289 q289; obtain rfl : ad286 = ad289 := (by injection e289); replace hx289_0 := (HB.out.cell (World.block_lt_of_cell? w _ hx289_0)).trans hx289_0; replace hx289_1 := (HB.out.cell (World.block_lt_of_cell? w _ hx289_1)).trans hx289_1; replace p289 := eq_true p289; replace q289 := eq_true q289; have hnb88 := NB280_274.out; have hnc88 := NB274_280.out; have hcz89_0 : w87.cell? ⟨gb280, 0, none⟩ = some (.int .i64 t275) := (blk_cell BK280.out 0).trans rfl; have hcz89_1 : w87.cell? ⟨gb280, 1, none⟩ = some (.int .i64 t276) := (blk_cell BK280.out 1).trans rfl; have hcz89_2 : w87.cell? ⟨gb280, 2, none⟩ = some (.int .i64 t277) := (blk_cell BK280.out 2).trans rfl; have hcz89_3 : w87.cell? ⟨gb280, 3, none⟩ = some (.int .i64 t278) := (blk_cell BK280.out 3).trans rfl; have hfz89_0 := blk_frozen BK280.out 0; have hfz89_1 := blk_frozen BK280.out 1; have hfz89_2 := blk_frozen BK280.out 2; have hfz89_3 := blk_frozen BK280.out 3; have p290 : 0 ≤ (x11_2 : Int) := of_decide_eq_true (by first | (with_reducible assumption) | assumption); have q290 : x11_2 < (l0.length : Int) := of_decide_eq_true (by first | (with_reducible assumption) | assumption); obtain ⟨ad290, e290, hx290_0, hx290_1⟩ := at_T30 HR0.out x11_2 p290 q290; obtain rfl : ad286 = ad290 := (by injection e290); replace hx290_0 := (HB.out.cell (World.block_lt_of_cell? w _ hx290_0)).trans hx290_0; replace hx290_1 := (HB.out.cell (World.block_lt_of_cell? w _ hx290_1)).trans hx290_1; replace p290 := eq_true p290; replace q290 := eq_true q290))
                   repeat (go_quiet (fail); try go_wp2)
                   go_roundg k2
                   case measure => have := HJ3.out; have := HK2.out; omega
                   case rel => exact ⟨(((wrap64 (((rd_T30 l0 x11_2).f0) - t275)) == 0)), (((wrap64 (((rd_T30 l0 x11_2).f0) - t275)) == t277)), (true), (((wrap64 (((rd_T30 l0 x11_2).f1) - t276)) == t278)), (wrap64 (x11_2 + 1)), (by first | rfl | (simp; done) | (simp [*]; done)), (by first | rfl | (simp; done) | (simp [*]; done)), (by first | rfl | (simp; done) | (simp [*]; done)), (by first | rfl | (simp; done) | (simp [*]; done)), (by first | rfl | (simp; done) | (simp [*]; done)), H', ⟨by have := HJ3.out; have := HK2.out; omega⟩, ⟨by (with_reducible repeat (first | refine blk_drewN ?_ _ | refine blk_drew ?_ | refine blk_alloc ?_ _)); exact BK274.out⟩, ⟨by (with_reducible repeat (first | refine blk_drewN ?_ _ | refine blk_drew ?_ | refine blk_alloc ?_ _)); exact BK280.out⟩, ⟨by repeat (first | (with_reducible first | exact HB.out | apply below_alloc | apply pw_below_drewN | apply below_drew1 | refine below_set ?_ GE274.out | refine below_set ?_ GE280.out) | exact HB.out)⟩⟩
                ·replace c82 := Bool.eq_false_iff.mpr c82
                 subst c82
                 have H1 : (if x10_2 = true then (garmentlaw11_PolygonCorners.l0 k2 l0 ((wrap64 (((rd_T30 l0 x11_2).f0) - t275)) == 0) ((wrap64 (((rd_T30 l0 x11_2).f0) - t275)) == t277) ((wrap64 (((rd_T30 l0 x11_2).f1) - t276)) == 0) true (wrap64 (x11_2 + 1)) a1_0 a1_1 t275 t276 t277 t278) else (garmentlaw11_PolygonCorners.l0 k2 l0 ((wrap64 (((rd_T30 l0 x11_2).f0) - t275)) == 0) ((wrap64 (((rd_T30 l0 x11_2).f0) - t275)) == t277) ((wrap64 (((rd_T30 l0 x11_2).f1) - t276)) == 0) ((wrap64 (((rd_T30 l0 x11_2).f1) - t276)) == t278) (wrap64 (x11_2 + 1)) a1_0 a1_1 t275 t276 t277 t278)) = some r := by rw [if_neg (show ¬ (false = true) by decide)] at H; exact H
                 clear H
                 have H := H1
                 clear H1
                 by_cases c90 : x10_2 = true
                 ·subst c90
                  have H1 : (garmentlaw11_PolygonCorners.l0 k2 l0 ((wrap64 (((rd_T30 l0 x11_2).f0) - t275)) == 0) ((wrap64 (((rd_T30 l0 x11_2).f0) - t275)) == t277) ((wrap64 (((rd_T30 l0 x11_2).f1) - t276)) == 0) true (wrap64 (x11_2 + 1)) a1_0 a1_1 t275 t276 t277 t278) = some r := by rw [if_pos rfl] at H; exact H
                  clear H
                  have H := H1
                  clear H1
                  as_aux_lemma =>
                   have H' := Aside0.mk H
                   clear H
                   have p286 : 0 ≤ (x11_2 : Int) := of_decide_eq_true (by first | (with_reducible assumption) | assumption)
                   have q286 : x11_2 < (l0.length : Int) := of_decide_eq_true (by first | (with_reducible assumption) | assumption)
                   obtain ⟨ad286, e286, hx286_0, hx286_1⟩ := at_T30 HR0.out x11_2 p286 q286
                   cases e286
                   replace hx286_0 := (HB.out.cell (World.block_lt_of_cell? w _ hx286_0)).trans hx286_0
                   replace hx286_1 := (HB.out.cell (World.block_lt_of_cell? w _ hx286_1)).trans hx286_1
                   replace p286 := eq_true p286
                   replace q286 := eq_true q286
                   go_wp2_with (first | (go_at_call 17; (with_reducible refine (polygon_Where.calls k2 _ _ l0 ((rd_T30 l0 x11_2).f0) ((rd_T30 l0 x11_2).f1) t287 t288 _ ?side1 ?side2 A27.out).mono ?_); (case side1 => repeat (first | exact (Kd.C_below HR0.out HB.out) | (with_reducible refine Kd.C_alloc ?_ _) | (with_reducible refine Kd.C_drewN ?_ _) | (with_reducible refine Kd.C_drew ?_))); (case side2 => exact HC0.out); rintro e w91 ⟨rfl, hb⟩; have n0_ := Aside0.mk (blk_below (g := gb274) (o := .cells #[.int .i64 a1_0, .int .i64 a1_1] 30 (0, 0)) (by (with_reducible repeat (first | refine blk_drewN ?_ _ | refine blk_drew ?_ | refine blk_alloc ?_ _)); exact BK274.out) hb); have n1_ := Aside0.mk (blk_below (g := gb280) (o := .cells #[.int .i64 t275, .int .i64 t276, .int .i64 t277, .int .i64 t278] 41 (0, 0)) (by (with_reducible repeat (first | refine blk_drewN ?_ _ | refine blk_drew ?_ | refine blk_alloc ?_ _)); exact BK280.out) hb); have n2_ := Aside0.mk (below_step (by repeat (first | exact HB.out | apply below_alloc | apply pw_below_drewN | apply below_drew1 | refine below_set ?_ GE274.out | refine below_set ?_ GE280.out)) hb); clear BK274; clear BK280; clear HB; have BK274 := n0_; have BK280 := n1_; have HB := n2_; clear n0_ n1_ n2_; (try clear hb); (try clear hb2); (try clear hk); (try clear hi); have p289 : 0 ≤ (x11_2 : Int) := of_decide_eq_true (by first | (with_reducible assumption) | assumption); have q289 : x11_2 < (l0.length : Int) := of_decide_eq_true (by first | (with_reducible assumption) | assumption); obtain ⟨ad289, e289, hx289_0, hx289_1⟩ := at_T30 HR0.out x11_2 p289 q289; obtain rfl : ad286 = ad289 := (by injection e289); replace hx289_0 := (HB.out.cell (World.block_lt_of_cell? w _ hx289_0)).trans hx289_0; replace hx289_1 := (HB.out.cell (World.block_lt_of_cell? w _ hx289_1)).trans hx289_1; replace p289 := eq_true p289; replace q289 := eq_true q289; have hnb92 := NB280_274.out; have hnc92 := NB274_280.out; have hcz93_0 : w91.cell? ⟨gb280, 0, none⟩ = some (.int .i64 t275) := (blk_cell BK280.out 0).trans rfl; have hcz93_1 : w91.cell? ⟨gb280, 1, none⟩ = some (.int .i64 t276) := (blk_cell BK280.out 1).trans rfl; have hcz93_2 : w91.cell? ⟨gb280, 2, none⟩ = some (.int .i64 t277) := (blk_cell BK280.out 2).trans rfl; have hcz93_3 : w91.cell? ⟨gb280, 3, none⟩ = some (.int .i64 t278) := (blk_cell BK280.out 3).trans rfl; have hfz93_0 := blk_frozen BK280.out 0; have hfz93_1 := blk_frozen BK280.out 1; have hfz93_2 := blk_frozen BK280.out 2; have hfz93_3 := blk_frozen BK280.out 3; have p290 : 0 ≤ (x11_2 : Int) := of_decide_eq_true (by first | (with_reducible assumption) | assumption); have q290 : x11_2 < (l0.length : Int) := of_decide_eq_true (by first | (with_reducible assumption) | assumption); obtain ⟨ad290, e290, hx290_0, hx290_1⟩ := at_T30 HR0.out x11_2 p290 q290; obtain rfl : ad286 = ad290 := (by injection e290); replace hx290_0 := (HB.out.cell (World.block_lt_of_cell? w _ hx290_0)).trans hx290_0; replace hx290_1 := (HB.out.cell (World.block_lt_of_cell? w _ hx290_1)).trans hx290_1; replace p290 := eq_true p290; replace q290 := eq_true q290))
                   repeat (go_quiet (fail); try go_wp2)
                   go_roundg k2
                   case measure => have := HJ3.out; have := HK2.out; omega
                   case rel => exact ⟨(((wrap64 (((rd_T30 l0 x11_2).f0) - t275)) == 0)), (((wrap64 (((rd_T30 l0 x11_2).f0) - t275)) == t277)), (((wrap64 (((rd_T30 l0 x11_2).f1) - t276)) == 0)), (true), (wrap64 (x11_2 + 1)), (by first | rfl | (simp; done) | (simp [*]; done)), (by first | rfl | (simp; done) | (simp [*]; done)), (by first | rfl | (simp; done) | (simp [*]; done)), (by first | rfl | (simp; done) | (simp [*]; done)), (by first | rfl | (simp; done) | (simp [*]; done)), H', ⟨by have := HJ3.out; have := HK2.out; omega⟩, ⟨by (with_reducible repeat (first | refine blk_drewN ?_ _ | refine blk_drew ?_ | refine blk_alloc ?_ _)); exact BK274.out⟩, ⟨by (with_reducible repeat (first | refine blk_drewN ?_ _ | refine blk_drew ?_ | refine blk_alloc ?_ _)); exact BK280.out⟩, ⟨by repeat (first | (with_reducible first | exact HB.out | apply below_alloc | apply pw_below_drewN | apply below_drew1 | refine below_set ?_ GE274.out | refine below_set ?_ GE280.out) | exact HB.out)⟩⟩
                 ·replace c90 := Bool.eq_false_iff.mpr c90
                  subst c90
                  have H1 : (garmentlaw11_PolygonCorners.l0 k2 l0 ((wrap64 (((rd_T30 l0 x11_2).f0) - t275)) == 0) ((wrap64 (((rd_T30 l0 x11_2).f0) - t275)) == t277) ((wrap64 (((rd_T30 l0 x11_2).f1) - t276)) == 0) ((wrap64 (((rd_T30 l0 x11_2).f1) - t276)) == t278) (wrap64 (x11_2 + 1)) a1_0 a1_1 t275 t276 t277 t278) = some r := by rw [if_neg (show ¬ (false = true) by decide)] at H; exact H
                  clear H
                  have H := H1
                  clear H1
                  as_aux_lemma =>
                   have H' := Aside0.mk H
                   clear H
                   have p286 : 0 ≤ (x11_2 : Int) := of_decide_eq_true (by first | (with_reducible assumption) | assumption)
                   have q286 : x11_2 < (l0.length : Int) := of_decide_eq_true (by first | (with_reducible assumption) | assumption)
                   obtain ⟨ad286, e286, hx286_0, hx286_1⟩ := at_T30 HR0.out x11_2 p286 q286
                   cases e286
                   replace hx286_0 := (HB.out.cell (World.block_lt_of_cell? w _ hx286_0)).trans hx286_0
                   replace hx286_1 := (HB.out.cell (World.block_lt_of_cell? w _ hx286_1)).trans hx286_1
                   replace p286 := eq_true p286
                   replace q286 := eq_true q286
                   go_wp2_with (first | (go_at_call 17; (with_reducible refine (polygon_Where.calls k2 _ _ l0 ((rd_T30 l0 x11_2).f0) ((rd_T30 l0 x11_2).f1) t287 t288 _ ?side1 ?side2 A27.out).mono ?_); (case side1 => repeat (first | exact (Kd.C_below HR0.out HB.out) | (with_reducible refine Kd.C_alloc ?_ _) | (with_reducible refine Kd.C_drewN ?_ _) | (with_reducible refine Kd.C_drew ?_))); (case side2 => exact HC0.out); rintro e w94 ⟨rfl, hb⟩; have n0_ := Aside0.mk (blk_below (g := gb274) (o := .cells #[.int .i64 a1_0, .int .i64 a1_1] 30 (0, 0)) (by (with_reducible repeat (first | refine blk_drewN ?_ _ | refine blk_drew ?_ | refine blk_alloc ?_ _)); exact BK274.out) hb); have n1_ := Aside0.mk (blk_below (g := gb280) (o := .cells #[.int .i64 t275, .int .i64 t276, .int .i64 t277, .int .i64 t278] 41 (0, 0)) (by (with_reducible repeat (first | refine blk_drewN ?_ _ | refine blk_drew ?_ | refine blk_alloc ?_ _)); exact BK280.out) hb); have n2_ := Aside0.mk (below_step (by repeat (first | exact HB.out | apply below_alloc | apply pw_below_drewN | apply below_drew1 | refine below_set ?_ GE274.out | refine below_set ?_ GE280.out)) hb); clear BK274; clear BK280; clear HB; have BK274 := n0_; have BK280 := n1_; have HB := n2_; clear n0_ n1_ n2_; (try clear hb); (try clear hb2); (try clear hk); (try clear hi); have p289 : 0 ≤ (x11_2 : Int) := of_decide_eq_true (by first | (with_reducible assumption) | assumption); have q289 : x11_2 < (l0.length : Int) := of_decide_eq_true (by first | (with_reducible assumption) | assumption); obtain ⟨ad289, e289, hx289_0, hx289_1⟩ := at_T30 HR0.out x11_2 p289 q289; obtain rfl : ad286 = ad289 := (by injection e289); replace hx289_0 := (HB.out.cell (World.block_lt_of_cell? w _ hx289_0)).trans hx289_0; replace hx289_1 := (HB.out.cell (World.block_lt_of_cell? w _ hx289_1)).trans hx289_1; replace p289 := eq_true p289; replace q289 := eq_true q289; have hnb95 := NB280_274.out; have hnc95 := NB274_280.out; have hcz96_0 : w94.cell? ⟨gb280, 0, none⟩ = some (.int .i64 t275) := (blk_cell BK280.out 0).trans rfl; have hcz96_1 : w94.cell? ⟨gb280, 1, none⟩ = some (.int .i64 t276) := (blk_cell BK280.out 1).trans rfl; have hcz96_2 : w94.cell? ⟨gb280, 2, none⟩ = some (.int .i64 t277) := (blk_cell BK280.out 2).trans rfl; have hcz96_3 : w94.cell? ⟨gb280, 3, none⟩ = some (.int .i64 t278) := (blk_cell BK280.out 3).trans rfl; have hfz96_0 := blk_frozen BK280.out 0; have hfz96_1 := blk_frozen BK280.out 1; have hfz96_2 := blk_frozen BK280.out 2; have hfz96_3 := blk_frozen BK280.out 3; have p290 : 0 ≤ (x11_2 : Int) := of_decide_eq_true (by first | (with_reducible assumption) | assumption); have q290 : x11_2 < (l0.length : Int) := of_decide_eq_true (by first | (with_reducible assumption) | assumption); obtain ⟨ad290, e290, hx290_0, hx290_1⟩ := at_T30 HR0.out x11_2 p290 q290; obtain rfl : ad286 = ad290 := (by injection e290); replace hx290_0 := (HB.out.cell (World.block_lt_of_cell? w _ hx290_0)).trans hx290_0; replace hx290_1 := (HB.out.cell (World.block_lt_of_cell? w _ hx290_1)).trans hx290_1; replace p290 := eq_true p290; replace q290 := eq_true q290))
                   repeat (go_quiet (fail); try go_wp2)
                   go_roundg k2
                   case measure => have := HJ3.out; have := HK2.out; omega
                   case rel => exact ⟨(((wrap64 (((rd_T30 l0 x11_2).f0) - t275)) == 0)), (((wrap64 (((rd_T30 l0 x11_2).f0) - t275)) == t277)), (((wrap64 (((rd_T30 l0 x11_2).f1) - t276)) == 0)), (((wrap64 (((rd_T30 l0 x11_2).f1) - t276)) == t278)), (wrap64 (x11_2 + 1)), (by first | rfl | (simp; done) | (simp [*]; done)), (by first | rfl | (simp; done) | (simp [*]; done)), (by first | rfl | (simp; done) | (simp [*]; done)), (by first | rfl | (simp; done) | (simp [*]; done)), (by first | rfl | (simp; done) | (simp [*]; done)), H', ⟨by have := HJ3.out; have := HK2.out; omega⟩, ⟨by (with_reducible repeat (first | refine blk_drewN ?_ _ | refine blk_drew ?_ | refine blk_alloc ?_ _)); exact BK274.out⟩, ⟨by (with_reducible repeat (first | refine blk_drewN ?_ _ | refine blk_drew ?_ | refine blk_alloc ?_ _)); exact BK280.out⟩, ⟨by repeat (first | (with_reducible first | exact HB.out | apply below_alloc | apply pw_below_drewN | apply below_drew1 | refine below_set ?_ GE274.out | refine below_set ?_ GE280.out) | exact HB.out)⟩⟩
         ·rw [if_neg c29] at H
          exact absurd H (by simp)
        ·rw [if_neg c28] at H
         exact absurd H (by simp)
       ·rw [if_neg c26] at H
        exact absurd H (by simp)
      ·rw [if_neg c25] at H
       have c25b0 : decide (x11_2 < (l0.length : Int)) = false := decide_eq_false c25
       clear c25
       replace H := Option.bind_eq_some_iff.mp H
       obtain ⟨⟨t291, t292⟩, A970, H⟩ := H
       replace H : (if a1_0 < t275 then (if x7_2 = true then (if x8_2 = true then (if x9_2 = true then (if x10_2 = true then (if t292 = 0 then (if t291 = (-1) then ((garmentlaw11_awake.f k2).bind fun t293 => (some t293)) else (none)) else (none)) else (none)) else (none)) else (none)) else (none)) else (if a1_0 > (wrap64 (t275 + t277)) then (if x7_2 = true then (if x8_2 = true then (if x9_2 = true then (if x10_2 = true then (if t292 = 0 then (if t291 = (-1) then ((garmentlaw11_awake.f k2).bind fun t294 => (some t294)) else (none)) else (none)) else (none)) else (none)) else (none)) else (none)) else (if a1_1 < t276 then (if x7_2 = true then (if x8_2 = true then (if x9_2 = true then (if x10_2 = true then (if t292 = 0 then (if t291 = (-1) then ((garmentlaw11_awake.f k2).bind fun t295 => (some t295)) else (none)) else (none)) else (none)) else (none)) else (none)) else (none)) else (if x7_2 = true then (if x8_2 = true then (if x9_2 = true then (if x10_2 = true then (if t292 = 0 then (if (a1_1 > (wrap64 (t276 + t278))) then (if t291 = (-1) then ((garmentlaw11_awake.f k2).bind fun t296 => (some t296)) else (none)) else ((garmentlaw11_awake.f k2).bind fun t297 => (some t297))) else (none)) else (none)) else (none)) else (none)) else (none))))) = some r := H
       have A97 := Aside0.mk A970
       clear A970
       by_cases c98 : a1_0 < t275
       ·rw [if_pos c98] at H
        have c98b0 : decide (a1_0 < t275) = true := decide_eq_true c98
        clear c98
        by_cases c99 : x7_2 = true
        ·subst c99
         have H1 : (if x8_2 = true then (if x9_2 = true then (if x10_2 = true then (if t292 = 0 then (if t291 = (-1) then ((garmentlaw11_awake.f k2).bind fun t293 => (some t293)) else (none)) else (none)) else (none)) else (none)) else (none)) = some r := by rw [if_pos rfl] at H; exact H
         clear H
         have H := H1
         clear H1
         by_cases c100 : x8_2 = true
         ·subst c100
          have H1 : (if x9_2 = true then (if x10_2 = true then (if t292 = 0 then (if t291 = (-1) then ((garmentlaw11_awake.f k2).bind fun t293 => (some t293)) else (none)) else (none)) else (none)) else (none)) = some r := by rw [if_pos rfl] at H; exact H
          clear H
          have H := H1
          clear H1
          by_cases c101 : x9_2 = true
          ·subst c101
           have H1 : (if x10_2 = true then (if t292 = 0 then (if t291 = (-1) then ((garmentlaw11_awake.f k2).bind fun t293 => (some t293)) else (none)) else (none)) else (none)) = some r := by rw [if_pos rfl] at H; exact H
           clear H
           have H := H1
           clear H1
           by_cases c102 : x10_2 = true
           ·subst c102
            have H1 : (if t292 = 0 then (if t291 = (-1) then ((garmentlaw11_awake.f k2).bind fun t293 => (some t293)) else (none)) else (none)) = some r := by rw [if_pos rfl] at H; exact H
            clear H
            have H := H1
            clear H1
            by_cases c103 : t292 = 0
            ·rw [if_pos c103] at H
             have c103b0 : (t292 == 0) = true := beq_iff_eq.mpr c103
             have c103b1 : (t292 != 0) = false := bne_eq_false_iff_eq.mpr c103
             clear c103
             by_cases c104 : t291 = (-1)
             ·rw [if_pos c104] at H
              have c104b0 : (t291 == (-1)) = true := beq_iff_eq.mpr c104
              have c104b1 : (t291 != (-1)) = false := bne_eq_false_iff_eq.mpr c104
              clear c104
              replace H := Option.bind_eq_some_iff.mp H
              obtain ⟨t293, A1050, H⟩ := H
              replace H : (some t293) = some r := H
              have A105 := Aside0.mk A1050
              clear A1050
              as_aux_lemma =>
               obtain rfl := Option.some.inj H
               have hnb106 := NB274_280.out
               have hnc106 := NB280_274.out
               have hcz107_0 : wr.cell? ⟨gb274, 0, none⟩ = some (.int .i64 a1_0) := (blk_cell BK274.out 0).trans rfl
               have hcz107_1 : wr.cell? ⟨gb274, 1, none⟩ = some (.int .i64 a1_1) := (blk_cell BK274.out 1).trans rfl
               have hfz107_0 := blk_frozen BK274.out 0
               have hfz107_1 := blk_frozen BK274.out 1
               go_wp2_with (first | (go_at_call 17; (with_reducible refine (polygon_Where.calls k2 _ _ l0 a1_0 a1_1 t291 t292 _ ?side1 ?side2 A97.out).mono ?_); (case side1 => repeat (first | exact (Kd.C_below HR0.out HB.out) | (with_reducible refine Kd.C_alloc ?_ _) | (with_reducible refine Kd.C_drewN ?_ _) | (with_reducible refine Kd.C_drew ?_))); (case side2 => exact HC0.out); rintro e w108 ⟨rfl, hb⟩; have n0_ := Aside0.mk (blk_below (g := gb274) (o := .cells #[.int .i64 a1_0, .int .i64 a1_1] 30 (0, 0)) (by (with_reducible repeat (first | refine blk_drewN ?_ _ | refine blk_drew ?_ | refine blk_alloc ?_ _)); exact BK274.out) hb); have n1_ := Aside0.mk (blk_below (g := gb280) (o := .cells #[.int .i64 t275, .int .i64 t276, .int .i64 t277, .int .i64 t278] 41 (0, 0)) (by (with_reducible repeat (first | refine blk_drewN ?_ _ | refine blk_drew ?_ | refine blk_alloc ?_ _)); exact BK280.out) hb); have n2_ := Aside0.mk (below_step (by repeat (first | exact HB.out | apply below_alloc | apply pw_below_drewN | apply below_drew1 | refine below_set ?_ GE274.out | refine below_set ?_ GE280.out)) hb); clear BK274; clear BK280; clear HB; have BK274 := n0_; have BK280 := n1_; have HB := n2_; clear n0_ n1_ n2_; (try clear hb); (try clear hb2); (try clear hk); (try clear hi); have hcz109_0 : w108.cell? ⟨gb274, 0, none⟩ = some (.int .i64 a1_0) := (blk_cell BK274.out 0).trans rfl; have hcz109_1 : w108.cell? ⟨gb274, 1, none⟩ = some (.int .i64 a1_1) := (blk_cell BK274.out 1).trans rfl; have hfz109_0 := blk_frozen BK274.out 0; have hfz109_1 := blk_frozen BK274.out 1; have hcz110_0 : w108.cell? ⟨gb280, 0, none⟩ = some (.int .i64 t275) := (blk_cell BK280.out 0).trans rfl; have hcz110_1 : w108.cell? ⟨gb280, 1, none⟩ = some (.int .i64 t276) := (blk_cell BK280.out 1).trans rfl; have hcz110_2 : w108.cell? ⟨gb280, 2, none⟩ = some (.int .i64 t277) := (blk_cell BK280.out 2).trans rfl; have hcz110_3 : w108.cell? ⟨gb280, 3, none⟩ = some (.int .i64 t278) := (blk_cell BK280.out 3).trans rfl; have hfz110_0 := blk_frozen BK280.out 0; have hfz110_1 := blk_frozen BK280.out 1; have hfz110_2 := blk_frozen BK280.out 2; have hfz110_3 := blk_frozen BK280.out 3) | (go_at_call 13; (with_reducible refine (garmentlaw11_awake.calls k2  t293 _ A105.out).mono ?_); rintro e w111 ⟨rfl, hb⟩; have n0_ := Aside0.mk (blk_below (g := gb274) (o := .cells #[.int .i64 a1_0, .int .i64 a1_1] 30 (0, 0)) (by (with_reducible repeat (first | refine blk_drewN ?_ _ | refine blk_drew ?_ | refine blk_alloc ?_ _)); exact BK274.out) hb); have n1_ := Aside0.mk (blk_below (g := gb280) (o := .cells #[.int .i64 t275, .int .i64 t276, .int .i64 t277, .int .i64 t278] 41 (0, 0)) (by (with_reducible repeat (first | refine blk_drewN ?_ _ | refine blk_drew ?_ | refine blk_alloc ?_ _)); exact BK280.out) hb); have n2_ := Aside0.mk (below_step (by repeat (first | exact HB.out | apply below_alloc | apply pw_below_drewN | apply below_drew1 | refine below_set ?_ GE274.out | refine below_set ?_ GE280.out)) hb); clear BK274; clear BK280; clear HB; have BK274 := n0_; have BK280 := n1_; have HB := n2_; clear n0_ n1_ n2_; (try clear hb); (try clear hb2); (try clear hk); (try clear hi)))
               repeat (go_quiet (fail); try go_wp2)
               go_ret
               exact ⟨by first | rfl | (simp [errW_none, errW_some] <;> rfl) | (simp [*, errW_none, errW_some] <;> rfl), by repeat (first | (with_reducible first | exact HB.out | apply below_alloc | apply pw_below_drewN | apply below_drew1 | refine below_set ?_ GE274.out | refine below_set ?_ GE280.out) | exact HB.out)⟩
             ·rw [if_neg c104] at H
              exact absurd H (by simp)
            ·rw [if_neg c103] at H
             exact absurd H (by simp)
           ·replace c102 := Bool.eq_false_iff.mpr c102
            subst c102
            have H1 : (none) = some r := by rw [if_neg (show ¬ (false = true) by decide)] at H; exact H
            clear H
            have H := H1
            clear H1
            exact absurd H (by simp)
          ·replace c101 := Bool.eq_false_iff.mpr c101
           subst c101
           have H1 : (none) = some r := by rw [if_neg (show ¬ (false = true) by decide)] at H; exact H
           clear H
           have H := H1
           clear H1
           exact absurd H (by simp)
         ·replace c100 := Bool.eq_false_iff.mpr c100
          subst c100
          have H1 : (none) = some r := by rw [if_neg (show ¬ (false = true) by decide)] at H; exact H
          clear H
          have H := H1
          clear H1
          exact absurd H (by simp)
        ·replace c99 := Bool.eq_false_iff.mpr c99
         subst c99
         have H1 : (none) = some r := by rw [if_neg (show ¬ (false = true) by decide)] at H; exact H
         clear H
         have H := H1
         clear H1
         exact absurd H (by simp)
       ·rw [if_neg c98] at H
        have c98b0 : decide (a1_0 < t275) = false := decide_eq_false c98
        clear c98
        by_cases c112 : a1_0 > (wrap64 (t275 + t277))
        ·rw [if_pos c112] at H
         have c112b0 : decide ((wrap64 (t275 + t277)) < a1_0) = true := decide_eq_true c112
         clear c112
         by_cases c113 : x7_2 = true
         ·subst c113
          have H1 : (if x8_2 = true then (if x9_2 = true then (if x10_2 = true then (if t292 = 0 then (if t291 = (-1) then ((garmentlaw11_awake.f k2).bind fun t294 => (some t294)) else (none)) else (none)) else (none)) else (none)) else (none)) = some r := by rw [if_pos rfl] at H; exact H
          clear H
          have H := H1
          clear H1
          by_cases c114 : x8_2 = true
          ·subst c114
           have H1 : (if x9_2 = true then (if x10_2 = true then (if t292 = 0 then (if t291 = (-1) then ((garmentlaw11_awake.f k2).bind fun t294 => (some t294)) else (none)) else (none)) else (none)) else (none)) = some r := by rw [if_pos rfl] at H; exact H
           clear H
           have H := H1
           clear H1
           by_cases c115 : x9_2 = true
           ·subst c115
            have H1 : (if x10_2 = true then (if t292 = 0 then (if t291 = (-1) then ((garmentlaw11_awake.f k2).bind fun t294 => (some t294)) else (none)) else (none)) else (none)) = some r := by rw [if_pos rfl] at H; exact H
            clear H
            have H := H1
            clear H1
            by_cases c116 : x10_2 = true
            ·subst c116
             have H1 : (if t292 = 0 then (if t291 = (-1) then ((garmentlaw11_awake.f k2).bind fun t294 => (some t294)) else (none)) else (none)) = some r := by rw [if_pos rfl] at H; exact H
             clear H
             have H := H1
             clear H1
             by_cases c117 : t292 = 0
             ·rw [if_pos c117] at H
              have c117b0 : (t292 == 0) = true := beq_iff_eq.mpr c117
              have c117b1 : (t292 != 0) = false := bne_eq_false_iff_eq.mpr c117
              clear c117
              by_cases c118 : t291 = (-1)
              ·rw [if_pos c118] at H
               have c118b0 : (t291 == (-1)) = true := beq_iff_eq.mpr c118
               have c118b1 : (t291 != (-1)) = false := bne_eq_false_iff_eq.mpr c118
               clear c118
               replace H := Option.bind_eq_some_iff.mp H
               obtain ⟨t294, A1190, H⟩ := H
               replace H : (some t294) = some r := H
               have A119 := Aside0.mk A1190
               clear A1190
               as_aux_lemma =>
                obtain rfl := Option.some.inj H
                have hnb120 := NB274_280.out
                have hnc120 := NB280_274.out
                have hcz121_0 : wr.cell? ⟨gb274, 0, none⟩ = some (.int .i64 a1_0) := (blk_cell BK274.out 0).trans rfl
                have hcz121_1 : wr.cell? ⟨gb274, 1, none⟩ = some (.int .i64 a1_1) := (blk_cell BK274.out 1).trans rfl
                have hfz121_0 := blk_frozen BK274.out 0
                have hfz121_1 := blk_frozen BK274.out 1
                go_wp2_with (first | (go_at_call 17; (with_reducible refine (polygon_Where.calls k2 _ _ l0 a1_0 a1_1 t291 t292 _ ?side1 ?side2 A97.out).mono ?_); (case side1 => repeat (first | exact (Kd.C_below HR0.out HB.out) | (with_reducible refine Kd.C_alloc ?_ _) | (with_reducible refine Kd.C_drewN ?_ _) | (with_reducible refine Kd.C_drew ?_))); (case side2 => exact HC0.out); rintro e w122 ⟨rfl, hb⟩; have n0_ := Aside0.mk (blk_below (g := gb274) (o := .cells #[.int .i64 a1_0, .int .i64 a1_1] 30 (0, 0)) (by (with_reducible repeat (first | refine blk_drewN ?_ _ | refine blk_drew ?_ | refine blk_alloc ?_ _)); exact BK274.out) hb); have n1_ := Aside0.mk (blk_below (g := gb280) (o := .cells #[.int .i64 t275, .int .i64 t276, .int .i64 t277, .int .i64 t278] 41 (0, 0)) (by (with_reducible repeat (first | refine blk_drewN ?_ _ | refine blk_drew ?_ | refine blk_alloc ?_ _)); exact BK280.out) hb); have n2_ := Aside0.mk (below_step (by repeat (first | exact HB.out | apply below_alloc | apply pw_below_drewN | apply below_drew1 | refine below_set ?_ GE274.out | refine below_set ?_ GE280.out)) hb); clear BK274; clear BK280; clear HB; have BK274 := n0_; have BK280 := n1_; have HB := n2_; clear n0_ n1_ n2_; (try clear hb); (try clear hb2); (try clear hk); (try clear hi); have hcz123_0 : w122.cell? ⟨gb274, 0, none⟩ = some (.int .i64 a1_0) := (blk_cell BK274.out 0).trans rfl; have hcz123_1 : w122.cell? ⟨gb274, 1, none⟩ = some (.int .i64 a1_1) := (blk_cell BK274.out 1).trans rfl; have hfz123_0 := blk_frozen BK274.out 0; have hfz123_1 := blk_frozen BK274.out 1; have hcz124_0 : w122.cell? ⟨gb280, 0, none⟩ = some (.int .i64 t275) := (blk_cell BK280.out 0).trans rfl; have hcz124_1 : w122.cell? ⟨gb280, 1, none⟩ = some (.int .i64 t276) := (blk_cell BK280.out 1).trans rfl; have hcz124_2 : w122.cell? ⟨gb280, 2, none⟩ = some (.int .i64 t277) := (blk_cell BK280.out 2).trans rfl; have hcz124_3 : w122.cell? ⟨gb280, 3, none⟩ = some (.int .i64 t278) := (blk_cell BK280.out 3).trans rfl; have hfz124_0 := blk_frozen BK280.out 0; have hfz124_1 := blk_frozen BK280.out 1; have hfz124_2 := blk_frozen BK280.out 2; have hfz124_3 := blk_frozen BK280.out 3) | (go_at_call 13; (with_reducible refine (garmentlaw11_awake.calls k2  t294 _ A119.out).mono ?_); rintro e w125 ⟨rfl, hb⟩; have n0_ := Aside0.mk (blk_below (g := gb274) (o := .cells #[.int .i64 a1_0, .int .i64 a1_1] 30 (0, 0)) (by (with_reducible repeat (first | refine blk_drewN ?_ _ | refine blk_drew ?_ | refine blk_alloc ?_ _)); exact BK274.out) hb); have n1_ := Aside0.mk (blk_below (g := gb280) (o := .cells #[.int .i64 t275, .int .i64 t276, .int .i64 t277, .int .i64 t278] 41 (0, 0)) (by (with_reducible repeat (first | refine blk_drewN ?_ _ | refine blk_drew ?_ | refine blk_alloc ?_ _)); exact BK280.out) hb); have n2_ := Aside0.mk (below_step (by repeat (first | exact HB.out | apply below_alloc | apply pw_below_drewN | apply below_drew1 | refine below_set ?_ GE274.out | refine below_set ?_ GE280.out)) hb); clear BK274; clear BK280; clear HB; have BK274 := n0_; have BK280 := n1_; have HB := n2_; clear n0_ n1_ n2_; (try clear hb); (try clear hb2); (try clear hk); (try clear hi)))
                repeat (go_quiet (fail); try go_wp2)
                go_ret
                exact ⟨by first | rfl | (simp [errW_none, errW_some] <;> rfl) | (simp [*, errW_none, errW_some] <;> rfl), by repeat (first | (with_reducible first | exact HB.out | apply below_alloc | apply pw_below_drewN | apply below_drew1 | refine below_set ?_ GE274.out | refine below_set ?_ GE280.out) | exact HB.out)⟩
              ·rw [if_neg c118] at H
               exact absurd H (by simp)
             ·rw [if_neg c117] at H
              exact absurd H (by simp)
            ·replace c116 := Bool.eq_false_iff.mpr c116
             subst c116
             have H1 : (none) = some r := by rw [if_neg (show ¬ (false = true) by decide)] at H; exact H
             clear H
             have H := H1
             clear H1
             exact absurd H (by simp)
           ·replace c115 := Bool.eq_false_iff.mpr c115
            subst c115
            have H1 : (none) = some r := by rw [if_neg (show ¬ (false = true) by decide)] at H; exact H
            clear H
            have H := H1
            clear H1
            exact absurd H (by simp)
          ·replace c114 := Bool.eq_false_iff.mpr c114
           subst c114
           have H1 : (none) = some r := by rw [if_neg (show ¬ (false = true) by decide)] at H; exact H
           clear H
           have H := H1
           clear H1
           exact absurd H (by simp)
         ·replace c113 := Bool.eq_false_iff.mpr c113
          subst c113
          have H1 : (none) = some r := by rw [if_neg (show ¬ (false = true) by decide)] at H; exact H
          clear H
          have H := H1
          clear H1
          exact absurd H (by simp)
        ·rw [if_neg c112] at H
         have c112b0 : decide ((wrap64 (t275 + t277)) < a1_0) = false := decide_eq_false c112
         clear c112
         by_cases c126 : a1_1 < t276
         ·rw [if_pos c126] at H
          have c126b0 : decide (a1_1 < t276) = true := decide_eq_true c126
          clear c126
          by_cases c127 : x7_2 = true
          ·subst c127
           have H1 : (if x8_2 = true then (if x9_2 = true then (if x10_2 = true then (if t292 = 0 then (if t291 = (-1) then ((garmentlaw11_awake.f k2).bind fun t295 => (some t295)) else (none)) else (none)) else (none)) else (none)) else (none)) = some r := by rw [if_pos rfl] at H; exact H
           clear H
           have H := H1
           clear H1
           by_cases c128 : x8_2 = true
           ·subst c128
            have H1 : (if x9_2 = true then (if x10_2 = true then (if t292 = 0 then (if t291 = (-1) then ((garmentlaw11_awake.f k2).bind fun t295 => (some t295)) else (none)) else (none)) else (none)) else (none)) = some r := by rw [if_pos rfl] at H; exact H
            clear H
            have H := H1
            clear H1
            by_cases c129 : x9_2 = true
            ·subst c129
             have H1 : (if x10_2 = true then (if t292 = 0 then (if t291 = (-1) then ((garmentlaw11_awake.f k2).bind fun t295 => (some t295)) else (none)) else (none)) else (none)) = some r := by rw [if_pos rfl] at H; exact H
             clear H
             have H := H1
             clear H1
             by_cases c130 : x10_2 = true
             ·subst c130
              have H1 : (if t292 = 0 then (if t291 = (-1) then ((garmentlaw11_awake.f k2).bind fun t295 => (some t295)) else (none)) else (none)) = some r := by rw [if_pos rfl] at H; exact H
              clear H
              have H := H1
              clear H1
              by_cases c131 : t292 = 0
              ·rw [if_pos c131] at H
               have c131b0 : (t292 == 0) = true := beq_iff_eq.mpr c131
               have c131b1 : (t292 != 0) = false := bne_eq_false_iff_eq.mpr c131
               clear c131
               by_cases c132 : t291 = (-1)
               ·rw [if_pos c132] at H
                have c132b0 : (t291 == (-1)) = true := beq_iff_eq.mpr c132
                have c132b1 : (t291 != (-1)) = false := bne_eq_false_iff_eq.mpr c132
                clear c132
                replace H := Option.bind_eq_some_iff.mp H
                obtain ⟨t295, A1330, H⟩ := H
                replace H : (some t295) = some r := H
                have A133 := Aside0.mk A1330
                clear A1330
                as_aux_lemma =>
                 obtain rfl := Option.some.inj H
                 have hnb134 := NB274_280.out
                 have hnc134 := NB280_274.out
                 have hcz135_0 : wr.cell? ⟨gb274, 0, none⟩ = some (.int .i64 a1_0) := (blk_cell BK274.out 0).trans rfl
                 have hcz135_1 : wr.cell? ⟨gb274, 1, none⟩ = some (.int .i64 a1_1) := (blk_cell BK274.out 1).trans rfl
                 have hfz135_0 := blk_frozen BK274.out 0
                 have hfz135_1 := blk_frozen BK274.out 1
                 go_wp2_with (first | (go_at_call 17; (with_reducible refine (polygon_Where.calls k2 _ _ l0 a1_0 a1_1 t291 t292 _ ?side1 ?side2 A97.out).mono ?_); (case side1 => repeat (first | exact (Kd.C_below HR0.out HB.out) | (with_reducible refine Kd.C_alloc ?_ _) | (with_reducible refine Kd.C_drewN ?_ _) | (with_reducible refine Kd.C_drew ?_))); (case side2 => exact HC0.out); rintro e w136 ⟨rfl, hb⟩; have n0_ := Aside0.mk (blk_below (g := gb274) (o := .cells #[.int .i64 a1_0, .int .i64 a1_1] 30 (0, 0)) (by (with_reducible repeat (first | refine blk_drewN ?_ _ | refine blk_drew ?_ | refine blk_alloc ?_ _)); exact BK274.out) hb); have n1_ := Aside0.mk (blk_below (g := gb280) (o := .cells #[.int .i64 t275, .int .i64 t276, .int .i64 t277, .int .i64 t278] 41 (0, 0)) (by (with_reducible repeat (first | refine blk_drewN ?_ _ | refine blk_drew ?_ | refine blk_alloc ?_ _)); exact BK280.out) hb); have n2_ := Aside0.mk (below_step (by repeat (first | exact HB.out | apply below_alloc | apply pw_below_drewN | apply below_drew1 | refine below_set ?_ GE274.out | refine below_set ?_ GE280.out)) hb); clear BK274; clear BK280; clear HB; have BK274 := n0_; have BK280 := n1_; have HB := n2_; clear n0_ n1_ n2_; (try clear hb); (try clear hb2); (try clear hk); (try clear hi); have hcz137_0 : w136.cell? ⟨gb274, 0, none⟩ = some (.int .i64 a1_0) := (blk_cell BK274.out 0).trans rfl; have hcz137_1 : w136.cell? ⟨gb274, 1, none⟩ = some (.int .i64 a1_1) := (blk_cell BK274.out 1).trans rfl; have hfz137_0 := blk_frozen BK274.out 0; have hfz137_1 := blk_frozen BK274.out 1; have hcz138_0 : w136.cell? ⟨gb280, 0, none⟩ = some (.int .i64 t275) := (blk_cell BK280.out 0).trans rfl; have hcz138_1 : w136.cell? ⟨gb280, 1, none⟩ = some (.int .i64 t276) := (blk_cell BK280.out 1).trans rfl; have hcz138_2 : w136.cell? ⟨gb280, 2, none⟩ = some (.int .i64 t277) := (blk_cell BK280.out 2).trans rfl; have hcz138_3 : w136.cell? ⟨gb280, 3, none⟩ = some (.int .i64 t278) := (blk_cell BK280.out 3).trans rfl; have hfz138_0 := blk_frozen BK280.out 0; have hfz138_1 := blk_frozen BK280.out 1; have hfz138_2 := blk_frozen BK280.out 2; have hfz138_3 := blk_frozen BK280.out 3) | (go_at_call 13; (with_reducible refine (garmentlaw11_awake.calls k2  t295 _ A133.out).mono ?_); rintro e w139 ⟨rfl, hb⟩; have n0_ := Aside0.mk (blk_below (g := gb274) (o := .cells #[.int .i64 a1_0, .int .i64 a1_1] 30 (0, 0)) (by (with_reducible repeat (first | refine blk_drewN ?_ _ | refine blk_drew ?_ | refine blk_alloc ?_ _)); exact BK274.out) hb); have n1_ := Aside0.mk (blk_below (g := gb280) (o := .cells #[.int .i64 t275, .int .i64 t276, .int .i64 t277, .int .i64 t278] 41 (0, 0)) (by (with_reducible repeat (first | refine blk_drewN ?_ _ | refine blk_drew ?_ | refine blk_alloc ?_ _)); exact BK280.out) hb); have n2_ := Aside0.mk (below_step (by repeat (first | exact HB.out | apply below_alloc | apply pw_below_drewN | apply below_drew1 | refine below_set ?_ GE274.out | refine below_set ?_ GE280.out)) hb); clear BK274; clear BK280; clear HB; have BK274 := n0_; have BK280 := n1_; have HB := n2_; clear n0_ n1_ n2_; (try clear hb); (try clear hb2); (try clear hk); (try clear hi)))
                 repeat (go_quiet (fail); try go_wp2)
                 go_ret
                 exact ⟨by first | rfl | (simp [errW_none, errW_some] <;> rfl) | (simp [*, errW_none, errW_some] <;> rfl), by repeat (first | (with_reducible first | exact HB.out | apply below_alloc | apply pw_below_drewN | apply below_drew1 | refine below_set ?_ GE274.out | refine below_set ?_ GE280.out) | exact HB.out)⟩
               ·rw [if_neg c132] at H
                exact absurd H (by simp)
              ·rw [if_neg c131] at H
               exact absurd H (by simp)
             ·replace c130 := Bool.eq_false_iff.mpr c130
              subst c130
              have H1 : (none) = some r := by rw [if_neg (show ¬ (false = true) by decide)] at H; exact H
              clear H
              have H := H1
              clear H1
              exact absurd H (by simp)
            ·replace c129 := Bool.eq_false_iff.mpr c129
             subst c129
             have H1 : (none) = some r := by rw [if_neg (show ¬ (false = true) by decide)] at H; exact H
             clear H
             have H := H1
             clear H1
             exact absurd H (by simp)
           ·replace c128 := Bool.eq_false_iff.mpr c128
            subst c128
            have H1 : (none) = some r := by rw [if_neg (show ¬ (false = true) by decide)] at H; exact H
            clear H
            have H := H1
            clear H1
            exact absurd H (by simp)
          ·replace c127 := Bool.eq_false_iff.mpr c127
           subst c127
           have H1 : (none) = some r := by rw [if_neg (show ¬ (false = true) by decide)] at H; exact H
           clear H
           have H := H1
           clear H1
           exact absurd H (by simp)
         ·rw [if_neg c126] at H
          have c126b0 : decide (a1_1 < t276) = false := decide_eq_false c126
          clear c126
          by_cases c140 : x7_2 = true
          ·subst c140
           have H1 : (if x8_2 = true then (if x9_2 = true then (if x10_2 = true then (if t292 = 0 then (if (a1_1 > (wrap64 (t276 + t278))) then (if t291 = (-1) then ((garmentlaw11_awake.f k2).bind fun t296 => (some t296)) else (none)) else ((garmentlaw11_awake.f k2).bind fun t297 => (some t297))) else (none)) else (none)) else (none)) else (none)) = some r := by rw [if_pos rfl] at H; exact H
           clear H
           have H := H1
           clear H1
           by_cases c141 : x8_2 = true
           ·subst c141
            have H1 : (if x9_2 = true then (if x10_2 = true then (if t292 = 0 then (if (a1_1 > (wrap64 (t276 + t278))) then (if t291 = (-1) then ((garmentlaw11_awake.f k2).bind fun t296 => (some t296)) else (none)) else ((garmentlaw11_awake.f k2).bind fun t297 => (some t297))) else (none)) else (none)) else (none)) = some r := by rw [if_pos rfl] at H; exact H
            clear H
            have H := H1
            clear H1
            by_cases c142 : x9_2 = true
            ·subst c142
             have H1 : (if x10_2 = true then (if t292 = 0 then (if (a1_1 > (wrap64 (t276 + t278))) then (if t291 = (-1) then ((garmentlaw11_awake.f k2).bind fun t296 => (some t296)) else (none)) else ((garmentlaw11_awake.f k2).bind fun t297 => (some t297))) else (none)) else (none)) = some r := by rw [if_pos rfl] at H; exact H
             clear H
             have H := H1
             clear H1
             by_cases c143 : x10_2 = true
             ·subst c143
              have H1 : (if t292 = 0 then (if (a1_1 > (wrap64 (t276 + t278))) then (if t291 = (-1) then ((garmentlaw11_awake.f k2).bind fun t296 => (some t296)) else (none)) else ((garmentlaw11_awake.f k2).bind fun t297 => (some t297))) else (none)) = some r := by rw [if_pos rfl] at H; exact H
              clear H
              have H := H1
              clear H1
              by_cases c144 : t292 = 0
              ·rw [if_pos c144] at H
               have c144b0 : (t292 == 0) = true := beq_iff_eq.mpr c144
               have c144b1 : (t292 != 0) = false := bne_eq_false_iff_eq.mpr c144
               clear c144
               by_cases c145 : (a1_1 > (wrap64 (t276 + t278)))
               ·rw [if_pos c145] at H
                have c145b0 : decide ((wrap64 (t276 + t278)) < a1_1) = true := decide_eq_true c145
                clear c145
                by_cases c146 : t291 = (-1)
                ·rw [if_pos c146] at H
                 have c146b0 : (t291 == (-1)) = true := beq_iff_eq.mpr c146
                 have c146b1 : (t291 != (-1)) = false := bne_eq_false_iff_eq.mpr c146
                 clear c146
                 replace H := Option.bind_eq_some_iff.mp H
                 obtain ⟨t296, A1470, H⟩ := H
                 replace H : (some t296) = some r := H
                 have A147 := Aside0.mk A1470
                 clear A1470
                 as_aux_lemma =>
                  obtain rfl := Option.some.inj H
                  have hnb148 := NB274_280.out
                  have hnc148 := NB280_274.out
                  have hcz149_0 : wr.cell? ⟨gb274, 0, none⟩ = some (.int .i64 a1_0) := (blk_cell BK274.out 0).trans rfl
                  have hcz149_1 : wr.cell? ⟨gb274, 1, none⟩ = some (.int .i64 a1_1) := (blk_cell BK274.out 1).trans rfl
                  have hfz149_0 := blk_frozen BK274.out 0
                  have hfz149_1 := blk_frozen BK274.out 1
                  go_wp2_with (first | (go_at_call 17; (with_reducible refine (polygon_Where.calls k2 _ _ l0 a1_0 a1_1 t291 t292 _ ?side1 ?side2 A97.out).mono ?_); (case side1 => repeat (first | exact (Kd.C_below HR0.out HB.out) | (with_reducible refine Kd.C_alloc ?_ _) | (with_reducible refine Kd.C_drewN ?_ _) | (with_reducible refine Kd.C_drew ?_))); (case side2 => exact HC0.out); rintro e w150 ⟨rfl, hb⟩; have n0_ := Aside0.mk (blk_below (g := gb274) (o := .cells #[.int .i64 a1_0, .int .i64 a1_1] 30 (0, 0)) (by (with_reducible repeat (first | refine blk_drewN ?_ _ | refine blk_drew ?_ | refine blk_alloc ?_ _)); exact BK274.out) hb); have n1_ := Aside0.mk (blk_below (g := gb280) (o := .cells #[.int .i64 t275, .int .i64 t276, .int .i64 t277, .int .i64 t278] 41 (0, 0)) (by (with_reducible repeat (first | refine blk_drewN ?_ _ | refine blk_drew ?_ | refine blk_alloc ?_ _)); exact BK280.out) hb); have n2_ := Aside0.mk (below_step (by repeat (first | exact HB.out | apply below_alloc | apply pw_below_drewN | apply below_drew1 | refine below_set ?_ GE274.out | refine below_set ?_ GE280.out)) hb); clear BK274; clear BK280; clear HB; have BK274 := n0_; have BK280 := n1_; have HB := n2_; clear n0_ n1_ n2_; (try clear hb); (try clear hb2); (try clear hk); (try clear hi); have hcz151_0 : w150.cell? ⟨gb274, 0, none⟩ = some (.int .i64 a1_0) := (blk_cell BK274.out 0).trans rfl; have hcz151_1 : w150.cell? ⟨gb274, 1, none⟩ = some (.int .i64 a1_1) := (blk_cell BK274.out 1).trans rfl; have hfz151_0 := blk_frozen BK274.out 0; have hfz151_1 := blk_frozen BK274.out 1; have hcz152_0 : w150.cell? ⟨gb280, 0, none⟩ = some (.int .i64 t275) := (blk_cell BK280.out 0).trans rfl; have hcz152_1 : w150.cell? ⟨gb280, 1, none⟩ = some (.int .i64 t276) := (blk_cell BK280.out 1).trans rfl; have hcz152_2 : w150.cell? ⟨gb280, 2, none⟩ = some (.int .i64 t277) := (blk_cell BK280.out 2).trans rfl; have hcz152_3 : w150.cell? ⟨gb280, 3, none⟩ = some (.int .i64 t278) := (blk_cell BK280.out 3).trans rfl; have hfz152_0 := blk_frozen BK280.out 0; have hfz152_1 := blk_frozen BK280.out 1; have hfz152_2 := blk_frozen BK280.out 2; have hfz152_3 := blk_frozen BK280.out 3) | (go_at_call 13; (with_reducible refine (garmentlaw11_awake.calls k2  t296 _ A147.out).mono ?_); rintro e w153 ⟨rfl, hb⟩; have n0_ := Aside0.mk (blk_below (g := gb274) (o := .cells #[.int .i64 a1_0, .int .i64 a1_1] 30 (0, 0)) (by (with_reducible repeat (first | refine blk_drewN ?_ _ | refine blk_drew ?_ | refine blk_alloc ?_ _)); exact BK274.out) hb); have n1_ := Aside0.mk (blk_below (g := gb280) (o := .cells #[.int .i64 t275, .int .i64 t276, .int .i64 t277, .int .i64 t278] 41 (0, 0)) (by (with_reducible repeat (first | refine blk_drewN ?_ _ | refine blk_drew ?_ | refine blk_alloc ?_ _)); exact BK280.out) hb); have n2_ := Aside0.mk (below_step (by repeat (first | exact HB.out | apply below_alloc | apply pw_below_drewN | apply below_drew1 | refine below_set ?_ GE274.out | refine below_set ?_ GE280.out)) hb); clear BK274; clear BK280; clear HB; have BK274 := n0_; have BK280 := n1_; have HB := n2_; clear n0_ n1_ n2_; (try clear hb); (try clear hb2); (try clear hk); (try clear hi)))
                  repeat (go_quiet (fail); try go_wp2)
                  go_ret
                  exact ⟨by first | rfl | (simp [errW_none, errW_some] <;> rfl) | (simp [*, errW_none, errW_some] <;> rfl), by repeat (first | (with_reducible first | exact HB.out | apply below_alloc | apply pw_below_drewN | apply below_drew1 | refine below_set ?_ GE274.out | refine below_set ?_ GE280.out) | exact HB.out)⟩
                ·rw [if_neg c146] at H
                 exact absurd H (by simp)
               ·rw [if_neg c145] at H
                have c145b0 : decide ((wrap64 (t276 + t278)) < a1_1) = false := decide_eq_false c145
                clear c145
                replace H := Option.bind_eq_some_iff.mp H
                obtain ⟨t297, A1540, H⟩ := H
                replace H : (some t297) = some r := H
                have A154 := Aside0.mk A1540
                clear A1540
                as_aux_lemma =>
                 obtain rfl := Option.some.inj H
                 have hnb155 := NB274_280.out
                 have hnc155 := NB280_274.out
                 have hcz156_0 : wr.cell? ⟨gb274, 0, none⟩ = some (.int .i64 a1_0) := (blk_cell BK274.out 0).trans rfl
                 have hcz156_1 : wr.cell? ⟨gb274, 1, none⟩ = some (.int .i64 a1_1) := (blk_cell BK274.out 1).trans rfl
                 have hfz156_0 := blk_frozen BK274.out 0
                 have hfz156_1 := blk_frozen BK274.out 1
                 go_wp2_with (first | (go_at_call 17; (with_reducible refine (polygon_Where.calls k2 _ _ l0 a1_0 a1_1 t291 t292 _ ?side1 ?side2 A97.out).mono ?_); (case side1 => repeat (first | exact (Kd.C_below HR0.out HB.out) | (with_reducible refine Kd.C_alloc ?_ _) | (with_reducible refine Kd.C_drewN ?_ _) | (with_reducible refine Kd.C_drew ?_))); (case side2 => exact HC0.out); rintro e w157 ⟨rfl, hb⟩; have n0_ := Aside0.mk (blk_below (g := gb274) (o := .cells #[.int .i64 a1_0, .int .i64 a1_1] 30 (0, 0)) (by (with_reducible repeat (first | refine blk_drewN ?_ _ | refine blk_drew ?_ | refine blk_alloc ?_ _)); exact BK274.out) hb); have n1_ := Aside0.mk (blk_below (g := gb280) (o := .cells #[.int .i64 t275, .int .i64 t276, .int .i64 t277, .int .i64 t278] 41 (0, 0)) (by (with_reducible repeat (first | refine blk_drewN ?_ _ | refine blk_drew ?_ | refine blk_alloc ?_ _)); exact BK280.out) hb); have n2_ := Aside0.mk (below_step (by repeat (first | exact HB.out | apply below_alloc | apply pw_below_drewN | apply below_drew1 | refine below_set ?_ GE274.out | refine below_set ?_ GE280.out)) hb); clear BK274; clear BK280; clear HB; have BK274 := n0_; have BK280 := n1_; have HB := n2_; clear n0_ n1_ n2_; (try clear hb); (try clear hb2); (try clear hk); (try clear hi); have hcz158_0 : w157.cell? ⟨gb274, 0, none⟩ = some (.int .i64 a1_0) := (blk_cell BK274.out 0).trans rfl; have hcz158_1 : w157.cell? ⟨gb274, 1, none⟩ = some (.int .i64 a1_1) := (blk_cell BK274.out 1).trans rfl; have hfz158_0 := blk_frozen BK274.out 0; have hfz158_1 := blk_frozen BK274.out 1; have hcz159_0 : w157.cell? ⟨gb280, 0, none⟩ = some (.int .i64 t275) := (blk_cell BK280.out 0).trans rfl; have hcz159_1 : w157.cell? ⟨gb280, 1, none⟩ = some (.int .i64 t276) := (blk_cell BK280.out 1).trans rfl; have hcz159_2 : w157.cell? ⟨gb280, 2, none⟩ = some (.int .i64 t277) := (blk_cell BK280.out 2).trans rfl; have hcz159_3 : w157.cell? ⟨gb280, 3, none⟩ = some (.int .i64 t278) := (blk_cell BK280.out 3).trans rfl; have hfz159_0 := blk_frozen BK280.out 0; have hfz159_1 := blk_frozen BK280.out 1; have hfz159_2 := blk_frozen BK280.out 2; have hfz159_3 := blk_frozen BK280.out 3) | (go_at_call 13; (with_reducible refine (garmentlaw11_awake.calls k2  t297 _ A154.out).mono ?_); rintro e w160 ⟨rfl, hb⟩; have n0_ := Aside0.mk (blk_below (g := gb274) (o := .cells #[.int .i64 a1_0, .int .i64 a1_1] 30 (0, 0)) (by (with_reducible repeat (first | refine blk_drewN ?_ _ | refine blk_drew ?_ | refine blk_alloc ?_ _)); exact BK274.out) hb); have n1_ := Aside0.mk (blk_below (g := gb280) (o := .cells #[.int .i64 t275, .int .i64 t276, .int .i64 t277, .int .i64 t278] 41 (0, 0)) (by (with_reducible repeat (first | refine blk_drewN ?_ _ | refine blk_drew ?_ | refine blk_alloc ?_ _)); exact BK280.out) hb); have n2_ := Aside0.mk (below_step (by repeat (first | exact HB.out | apply below_alloc | apply pw_below_drewN | apply below_drew1 | refine below_set ?_ GE274.out | refine below_set ?_ GE280.out)) hb); clear BK274; clear BK280; clear HB; have BK274 := n0_; have BK280 := n1_; have HB := n2_; clear n0_ n1_ n2_; (try clear hb); (try clear hb2); (try clear hk); (try clear hi)))
                 repeat (go_quiet (fail); try go_wp2)
                 go_ret
                 exact ⟨by first | rfl | (simp [errW_none, errW_some] <;> rfl) | (simp [*, errW_none, errW_some] <;> rfl), by repeat (first | (with_reducible first | exact HB.out | apply below_alloc | apply pw_below_drewN | apply below_drew1 | refine below_set ?_ GE274.out | refine below_set ?_ GE280.out) | exact HB.out)⟩
              ·rw [if_neg c144] at H
               exact absurd H (by simp)
             ·replace c143 := Bool.eq_false_iff.mpr c143
              subst c143
              have H1 : (none) = some r := by rw [if_neg (show ¬ (false = true) by decide)] at H; exact H
              clear H
              have H := H1
              clear H1
              exact absurd H (by simp)
            ·replace c142 := Bool.eq_false_iff.mpr c142
             subst c142
             have H1 : (none) = some r := by rw [if_neg (show ¬ (false = true) by decide)] at H; exact H
             clear H
             have H := H1
             clear H1
             exact absurd H (by simp)
           ·replace c141 := Bool.eq_false_iff.mpr c141
            subst c141
            have H1 : (none) = some r := by rw [if_neg (show ¬ (false = true) by decide)] at H; exact H
            clear H
            have H := H1
            clear H1
            exact absurd H (by simp)
          ·replace c140 := Bool.eq_false_iff.mpr c140
           subst c140
           have H1 : (none) = some r := by rw [if_neg (show ¬ (false = true) by decide)] at H; exact H
           clear H
           have H := H1
           clear H1
           exact absurd H (by simp)
/-- The statement that is left: numbers and lists alone. -/
def garmentlaw11_PolygonCorners.Pure : Prop := ∀ (x0 : List (S30)) (x1 : S30), (x0.length ≤ maxLen ∧ ∀ y0 ∈ x0, ((Lit.int .i64 y0.f0).wf = true ∧ (Lit.int .i64 y0.f1).wf = true)) → ((Lit.int .i64 x1.f0).wf = true ∧ (Lit.int .i64 x1.f1).wf = true) → ∃ k, garmentlaw11_PolygonCorners.f k x0 x1.f0 x1.f1 = some true
end Go.Proofs.Ytccinkbneimmhaa.PPolygonCorners
