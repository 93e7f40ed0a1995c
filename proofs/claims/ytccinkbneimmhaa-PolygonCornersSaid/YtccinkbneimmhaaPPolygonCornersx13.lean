/- Written by a program of this session out of the translation. -/
import Derived.Test.YtccinkbneimmhaaPPolygonCornersx0
import Derived.Test.YtccinkbneimmhaaPPolygonCornersx2
import Derived.Test.YtccinkbneimmhaaPPolygonCornersx7
import Derived.Test.YtccinkbneimmhaaPPolygonCornersx9
import Derived.Test.YtccinkbneimmhaaPPolygonCornersx10
import Derived.Test.YtccinkbneimmhaaPPolygonCornersx11
import Derived.Test.YtccinkbneimmhaaPPolygonCornersx12
namespace Go.Proofs.Ytccinkbneimmhaa.PPolygonCorners
open Go.RowKit Go.Proofs.YtccinkbneimmhaaW.PrintWords Go.Proofs.YtccinkbneimmhaaW.PrintLast Go.Proofs.YtccinkbneimmhaaW.PrintMore
attribute [local go_sem] max2_int min2_int max_two min_two max_three min_three max_four min_four   -- for this text's walks alone
set_option linter.unusedVariables false
set_option linter.unusedSimpArgs false
attribute [local go_sem high] eqA41
/-! ### garmentlaw11_awake: function 13 -/
def garmentlaw11_awake.j0 : Nat → List (S30) → List (S30) → List (S30) → Bool → Int → Int → Int → Int → Option (Bool)
 | 0, _, _, _, _, _, _, _, _ => none
 | k + 1, x1, x2, x4, x119, x257000, x257001, x257002, x257003 => if x119 = true then (none) else ((some (([(⟨0, 0⟩ : S30), (⟨4, 4⟩ : S30), (⟨4, 0⟩ : S30), (⟨0, 4⟩ : S30)] : List (S30)) : List (S30))).bind fun y261 => ((garmentref11_Same.f k x4 x1).bind fun t264 => (if t264 = true then (if (x257000 == 0 && (x257001 == 0 && (x257002 == 4 && (x257003 == 4)))) = true then ((polygon_Area2.f k x1).bind fun t265 => (if t265 = 32 then ((polygon_Area2.f k x2).bind fun t266 => (if t266 = (-32) then ((polygon_Area2.f k y261).bind fun t267 => (if t267 = 0 then ((polygon_Check.f k y261).bind fun t268 => (if t268 = 11 then (if 2 ≤ (x1.length : Int) then ((polygon_Check.f k (x1.take 2)).bind fun t273 => (some (t273 == 11))) else (none)) else (none))) else (none))) else (none))) else (none))) else (none)) else (none))))
def garmentlaw11_awake.f (k : Nat)  : Option (Bool) := (some (([(⟨0, 0⟩ : S30), (⟨4, 0⟩ : S30), (⟨4, 4⟩ : S30), (⟨0, 4⟩ : S30)] : List (S30)) : List (S30))).bind fun y232 => ((some (([(⟨4, 4⟩ : S30), (⟨4, 0⟩ : S30), (⟨2, 0⟩ : S30), (⟨0, 0⟩ : S30), (⟨0, 4⟩ : S30)] : List (S30)) : List (S30))).bind fun y235 => ((some (([(⟨0, 0⟩ : S30), (⟨4, 0⟩ : S30), (⟨4, 2⟩ : S30), (⟨2, 2⟩ : S30), (⟨2, 4⟩ : S30), (⟨0, 4⟩ : S30)] : List (S30)) : List (S30))).bind fun y238 => ((polygon_Normal.f k y235).bind fun bt241 => ((polygon_Where.f k y232 1 1).bind fun bt245 => ((polygon_Where.f k y232 4 2).bind fun bt247 => ((polygon_Where.f k y238 3 3).bind fun bt249 => ((polygon_Box.f k y238).bind fun bt251 => ((polygon_Convex.f k y232).bind fun bt257 => ((polygon_Convex.f k y238).bind fun bt259 => (if bt241.2 = 0 then (if bt245.2 = 0 then (if bt247.2 = 0 then (if bt249.2 = 0 then (if bt251.2.2.2.2 = 0 then (if bt257.2 = 0 then (if bt259.2 = 0 then (if bt245.1 = 1 then (if bt247.1 = 0 then (if bt249.1 = (-1) then (if bt257.1 = true then (garmentlaw11_awake.j0 k y232 y235 bt241.1 bt259.1 bt251.1 bt251.2.1 bt251.2.2.1 bt251.2.2.2.1) else (garmentlaw11_awake.j0 k y232 y235 bt241.1 true bt251.1 bt251.2.1 bt251.2.2.1 bt251.2.2.2.1)) else (garmentlaw11_awake.j0 k y232 y235 bt241.1 true bt251.1 bt251.2.1 bt251.2.2.1 bt251.2.2.2.1)) else (garmentlaw11_awake.j0 k y232 y235 bt241.1 true bt251.1 bt251.2.1 bt251.2.2.1 bt251.2.2.2.1)) else (garmentlaw11_awake.j0 k y232 y235 bt241.1 true bt251.1 bt251.2.1 bt251.2.2.1 bt251.2.2.2.1)) else (garmentlaw11_awake.j0 k y232 y235 bt241.1 true bt251.1 bt251.2.1 bt251.2.2.1 bt251.2.2.2.1)) else (garmentlaw11_awake.j0 k y232 y235 bt241.1 true bt251.1 bt251.2.1 bt251.2.2.1 bt251.2.2.2.1)) else (garmentlaw11_awake.j0 k y232 y235 bt241.1 true bt251.1 bt251.2.1 bt251.2.2.1 bt251.2.2.2.1)) else (garmentlaw11_awake.j0 k y232 y235 bt241.1 true bt251.1 bt251.2.1 bt251.2.2.1 bt251.2.2.2.1)) else (garmentlaw11_awake.j0 k y232 y235 bt241.1 true bt251.1 bt251.2.1 bt251.2.2.1 bt251.2.2.2.1)) else (garmentlaw11_awake.j0 k y232 y235 bt241.1 true bt251.1 bt251.2.1 bt251.2.2.1 bt251.2.2.2.1)) else (garmentlaw11_awake.j0 k y232 y235 bt241.1 true bt251.1 bt251.2.1 bt251.2.2.1 bt251.2.2.2.1)))))))))))
theorem garmentlaw11_awake.mono_l : ∀ k, (∀ y0 y1 y2 y3 y4 y5 y6 y7, LeO (garmentlaw11_awake.j0 k y0 y1 y2 y3 y4 y5 y6 y7) (garmentlaw11_awake.j0 (k + 1) y0 y1 y2 y3 y4 y5 y6 y7))
 | 0 => fun _ _ _ _ _ _ _ _ r h => by simp [garmentlaw11_awake.j0] at h
 | k + 1 => by
  have ih0 := garmentlaw11_awake.mono_l k
  ·intro y0 y1 y2 y3 y4 y5 y6 y7
   unfold garmentlaw11_awake.j0
   repeat' first
   | (with_reducible exact ih0 _ _ _ _ _ _ _ _)
   | (with_reducible exact garmentref11_Same.mono _ _ _)
   | (with_reducible exact polygon_Area2.mono _ _)
   | (with_reducible exact polygon_Box.mono _ _)
   | (with_reducible exact polygon_Check.mono _ _)
   | (with_reducible exact polygon_Convex.mono _ _)
   | (with_reducible exact polygon_Normal.mono _ _)
   | (with_reducible exact polygon_Where.mono _ _ _ _)
   | (with_reducible exact LeO.refl _)
   | (with_reducible exact LeO.none _)
   | (with_reducible refine LeO.ite ?_ ?_)
   | (with_reducible refine LeO.bind ?_ (fun _ => ?_))
   | exact ih0 _ _ _ _ _ _ _ _
   | exact garmentref11_Same.mono _ _ _
   | exact polygon_Area2.mono _ _
   | exact polygon_Box.mono _ _
   | exact polygon_Check.mono _ _
   | exact polygon_Convex.mono _ _
   | exact polygon_Normal.mono _ _
   | exact polygon_Where.mono _ _ _ _
   | exact LeO.none _
   | refine LeO.ite ?_ ?_
   | refine LeO.bind ?_ (fun _ => ?_)
theorem garmentlaw11_awake.mono : ∀ k, LeO (garmentlaw11_awake.f k ) (garmentlaw11_awake.f (k + 1) ) := by
 intro  k
 have ih0 := garmentlaw11_awake.mono_l k
 unfold garmentlaw11_awake.f
 repeat' first
   | (with_reducible exact ih0 _ _ _ _ _ _ _ _)
   | (with_reducible exact garmentref11_Same.mono _ _ _)
   | (with_reducible exact polygon_Area2.mono _ _)
   | (with_reducible exact polygon_Box.mono _ _)
   | (with_reducible exact polygon_Check.mono _ _)
   | (with_reducible exact polygon_Convex.mono _ _)
   | (with_reducible exact polygon_Normal.mono _ _)
   | (with_reducible exact polygon_Where.mono _ _ _ _)
   | (with_reducible exact LeO.refl _)
   | (with_reducible exact LeO.none _)
   | (with_reducible refine LeO.ite ?_ ?_)
   | (with_reducible refine LeO.bind ?_ (fun _ => ?_))
   | exact ih0 _ _ _ _ _ _ _ _
   | exact garmentref11_Same.mono _ _ _
   | exact polygon_Area2.mono _ _
   | exact polygon_Box.mono _ _
   | exact polygon_Check.mono _ _
   | exact polygon_Convex.mono _ _
   | exact polygon_Normal.mono _ _
   | exact polygon_Where.mono _ _ _ _
   | exact LeO.none _
   | refine LeO.ite ?_ ?_
   | refine LeO.bind ?_ (fun _ => ?_)
set_option maxHeartbeats 8000000 in
set_option maxRecDepth 100000 in
theorem garmentlaw11_awake.calls (k : Nat)  (r : Bool) (w : World) (h : garmentlaw11_awake.f k  = some r) :
  Calls Try.prog 13 #[] w fun e w' => e = .returned (.bool r) ∧ Below w.heap.size w w' := by
 have hu30 := Try.underlying30
 have hu41 := Try.underlying41
 have HB := Aside0.mk (Below.refl w.heap.size w)
 have H : ((some (([(⟨0, 0⟩ : S30), (⟨4, 0⟩ : S30), (⟨4, 4⟩ : S30), (⟨0, 4⟩ : S30)] : List (S30)) : List (S30))).bind fun y232 => ((some (([(⟨4, 4⟩ : S30), (⟨4, 0⟩ : S30), (⟨2, 0⟩ : S30), (⟨0, 0⟩ : S30), (⟨0, 4⟩ : S30)] : List (S30)) : List (S30))).bind fun y235 => ((some (([(⟨0, 0⟩ : S30), (⟨4, 0⟩ : S30), (⟨4, 2⟩ : S30), (⟨2, 2⟩ : S30), (⟨2, 4⟩ : S30), (⟨0, 4⟩ : S30)] : List (S30)) : List (S30))).bind fun y238 => ((polygon_Normal.f k y235).bind fun bt241 => ((polygon_Where.f k y232 1 1).bind fun bt245 => ((polygon_Where.f k y232 4 2).bind fun bt247 => ((polygon_Where.f k y238 3 3).bind fun bt249 => ((polygon_Box.f k y238).bind fun bt251 => ((polygon_Convex.f k y232).bind fun bt257 => ((polygon_Convex.f k y238).bind fun bt259 => (if bt241.2 = 0 then (if bt245.2 = 0 then (if bt247.2 = 0 then (if bt249.2 = 0 then (if bt251.2.2.2.2 = 0 then (if bt257.2 = 0 then (if bt259.2 = 0 then (if bt245.1 = 1 then (if bt247.1 = 0 then (if bt249.1 = (-1) then (if bt257.1 = true then (garmentlaw11_awake.j0 k y232 y235 bt241.1 bt259.1 bt251.1 bt251.2.1 bt251.2.2.1 bt251.2.2.2.1) else (garmentlaw11_awake.j0 k y232 y235 bt241.1 true bt251.1 bt251.2.1 bt251.2.2.1 bt251.2.2.2.1)) else (garmentlaw11_awake.j0 k y232 y235 bt241.1 true bt251.1 bt251.2.1 bt251.2.2.1 bt251.2.2.2.1)) else (garmentlaw11_awake.j0 k y232 y235 bt241.1 true bt251.1 bt251.2.1 bt251.2.2.1 bt251.2.2.2.1)) else (garmentlaw11_awake.j0 k y232 y235 bt241.1 true bt251.1 bt251.2.1 bt251.2.2.1 bt251.2.2.2.1)) else (garmentlaw11_awake.j0 k y232 y235 bt241.1 true bt251.1 bt251.2.1 bt251.2.2.1 bt251.2.2.2.1)) else (garmentlaw11_awake.j0 k y232 y235 bt241.1 true bt251.1 bt251.2.1 bt251.2.2.1 bt251.2.2.2.1)) else (garmentlaw11_awake.j0 k y232 y235 bt241.1 true bt251.1 bt251.2.1 bt251.2.2.1 bt251.2.2.2.1)) else (garmentlaw11_awake.j0 k y232 y235 bt241.1 true bt251.1 bt251.2.1 bt251.2.2.1 bt251.2.2.2.1)) else (garmentlaw11_awake.j0 k y232 y235 bt241.1 true bt251.1 bt251.2.1 bt251.2.2.1 bt251.2.2.2.1)) else (garmentlaw11_awake.j0 k y232 y235 bt241.1 true bt251.1 bt251.2.1 bt251.2.2.1 bt251.2.2.2.1)) else (garmentlaw11_awake.j0 k y232 y235 bt241.1 true bt251.1 bt251.2.1 bt251.2.2.1 bt251.2.2.2.1)))))))))))) = some r := h
 clear h
 obtain ⟨y232, hy232⟩ : ∃ y_ : List (S30), y_ = (([(⟨0, 0⟩ : S30), (⟨4, 0⟩ : S30), (⟨4, 4⟩ : S30), (⟨0, 4⟩ : S30)] : List (S30))) := ⟨_, rfl⟩
 replace H : ((some (([(⟨4, 4⟩ : S30), (⟨4, 0⟩ : S30), (⟨2, 0⟩ : S30), (⟨0, 0⟩ : S30), (⟨0, 4⟩ : S30)] : List (S30)) : List (S30))).bind fun y235 => ((some (([(⟨0, 0⟩ : S30), (⟨4, 0⟩ : S30), (⟨4, 2⟩ : S30), (⟨2, 2⟩ : S30), (⟨2, 4⟩ : S30), (⟨0, 4⟩ : S30)] : List (S30)) : List (S30))).bind fun y238 => ((polygon_Normal.f k y235).bind fun bt241 => ((polygon_Where.f k y232 1 1).bind fun bt245 => ((polygon_Where.f k y232 4 2).bind fun bt247 => ((polygon_Where.f k y238 3 3).bind fun bt249 => ((polygon_Box.f k y238).bind fun bt251 => ((polygon_Convex.f k y232).bind fun bt257 => ((polygon_Convex.f k y238).bind fun bt259 => (if bt241.2 = 0 then (if bt245.2 = 0 then (if bt247.2 = 0 then (if bt249.2 = 0 then (if bt251.2.2.2.2 = 0 then (if bt257.2 = 0 then (if bt259.2 = 0 then (if bt245.1 = 1 then (if bt247.1 = 0 then (if bt249.1 = (-1) then (if bt257.1 = true then (garmentlaw11_awake.j0 k y232 y235 bt241.1 bt259.1 bt251.1 bt251.2.1 bt251.2.2.1 bt251.2.2.2.1) else (garmentlaw11_awake.j0 k y232 y235 bt241.1 true bt251.1 bt251.2.1 bt251.2.2.1 bt251.2.2.2.1)) else (garmentlaw11_awake.j0 k y232 y235 bt241.1 true bt251.1 bt251.2.1 bt251.2.2.1 bt251.2.2.2.1)) else (garmentlaw11_awake.j0 k y232 y235 bt241.1 true bt251.1 bt251.2.1 bt251.2.2.1 bt251.2.2.2.1)) else (garmentlaw11_awake.j0 k y232 y235 bt241.1 true bt251.1 bt251.2.1 bt251.2.2.1 bt251.2.2.2.1)) else (garmentlaw11_awake.j0 k y232 y235 bt241.1 true bt251.1 bt251.2.1 bt251.2.2.1 bt251.2.2.2.1)) else (garmentlaw11_awake.j0 k y232 y235 bt241.1 true bt251.1 bt251.2.1 bt251.2.2.1 bt251.2.2.2.1)) else (garmentlaw11_awake.j0 k y232 y235 bt241.1 true bt251.1 bt251.2.1 bt251.2.2.1 bt251.2.2.2.1)) else (garmentlaw11_awake.j0 k y232 y235 bt241.1 true bt251.1 bt251.2.1 bt251.2.2.1 bt251.2.2.2.1)) else (garmentlaw11_awake.j0 k y232 y235 bt241.1 true bt251.1 bt251.2.1 bt251.2.2.1 bt251.2.2.2.1)) else (garmentlaw11_awake.j0 k y232 y235 bt241.1 true bt251.1 bt251.2.1 bt251.2.2.1 bt251.2.2.2.1)) else (garmentlaw11_awake.j0 k y232 y235 bt241.1 true bt251.1 bt251.2.1 bt251.2.2.1 bt251.2.2.2.1))))))))))) = some r := by first | (rw [hy232]; with_reducible exact H) | (have H2_ := (Option.bind_some _ _).symm.trans H; rw [hy232]; with_reducible exact H2_) | (have H2_ := (Option.bind_some _ _).symm.trans H; with_reducible exact H2_) | with_reducible exact H | (rw [hy232]; exact H) | exact H
 have Ny232 := Aside0.mk hy232
 clear hy232
 obtain ⟨y235, hy235⟩ : ∃ y_ : List (S30), y_ = (([(⟨4, 4⟩ : S30), (⟨4, 0⟩ : S30), (⟨2, 0⟩ : S30), (⟨0, 0⟩ : S30), (⟨0, 4⟩ : S30)] : List (S30))) := ⟨_, rfl⟩
 replace H : ((some (([(⟨0, 0⟩ : S30), (⟨4, 0⟩ : S30), (⟨4, 2⟩ : S30), (⟨2, 2⟩ : S30), (⟨2, 4⟩ : S30), (⟨0, 4⟩ : S30)] : List (S30)) : List (S30))).bind fun y238 => ((polygon_Normal.f k y235).bind fun bt241 => ((polygon_Where.f k y232 1 1).bind fun bt245 => ((polygon_Where.f k y232 4 2).bind fun bt247 => ((polygon_Where.f k y238 3 3).bind fun bt249 => ((polygon_Box.f k y238).bind fun bt251 => ((polygon_Convex.f k y232).bind fun bt257 => ((polygon_Convex.f k y238).bind fun bt259 => (if bt241.2 = 0 then (if bt245.2 = 0 then (if bt247.2 = 0 then (if bt249.2 = 0 then (if bt251.2.2.2.2 = 0 then (if bt257.2 = 0 then (if bt259.2 = 0 then (if bt245.1 = 1 then (if bt247.1 = 0 then (if bt249.1 = (-1) then (if bt257.1 = true then (garmentlaw11_awake.j0 k y232 y235 bt241.1 bt259.1 bt251.1 bt251.2.1 bt251.2.2.1 bt251.2.2.2.1) else (garmentlaw11_awake.j0 k y232 y235 bt241.1 true bt251.1 bt251.2.1 bt251.2.2.1 bt251.2.2.2.1)) else (garmentlaw11_awake.j0 k y232 y235 bt241.1 true bt251.1 bt251.2.1 bt251.2.2.1 bt251.2.2.2.1)) else (garmentlaw11_awake.j0 k y232 y235 bt241.1 true bt251.1 bt251.2.1 bt251.2.2.1 bt251.2.2.2.1)) else (garmentlaw11_awake.j0 k y232 y235 bt241.1 true bt251.1 bt251.2.1 bt251.2.2.1 bt251.2.2.2.1)) else (garmentlaw11_awake.j0 k y232 y235 bt241.1 true bt251.1 bt251.2.1 bt251.2.2.1 bt251.2.2.2.1)) else (garmentlaw11_awake.j0 k y232 y235 bt241.1 true bt251.1 bt251.2.1 bt251.2.2.1 bt251.2.2.2.1)) else (garmentlaw11_awake.j0 k y232 y235 bt241.1 true bt251.1 bt251.2.1 bt251.2.2.1 bt251.2.2.2.1)) else (garmentlaw11_awake.j0 k y232 y235 bt241.1 true bt251.1 bt251.2.1 bt251.2.2.1 bt251.2.2.2.1)) else (garmentlaw11_awake.j0 k y232 y235 bt241.1 true bt251.1 bt251.2.1 bt251.2.2.1 bt251.2.2.2.1)) else (garmentlaw11_awake.j0 k y232 y235 bt241.1 true bt251.1 bt251.2.1 bt251.2.2.1 bt251.2.2.2.1)) else (garmentlaw11_awake.j0 k y232 y235 bt241.1 true bt251.1 bt251.2.1 bt251.2.2.1 bt251.2.2.2.1)))))))))) = some r := by first | (rw [hy235]; with_reducible exact H) | (have H2_ := (Option.bind_some _ _).symm.trans H; rw [hy235]; with_reducible exact H2_) | (have H2_ := (Option.bind_some _ _).symm.trans H; with_reducible exact H2_) | with_reducible exact H | (rw [hy235]; exact H) | exact H
 have Ny235 := Aside0.mk hy235
 clear hy235
 obtain ⟨y238, hy238⟩ : ∃ y_ : List (S30), y_ = (([(⟨0, 0⟩ : S30), (⟨4, 0⟩ : S30), (⟨4, 2⟩ : S30), (⟨2, 2⟩ : S30), (⟨2, 4⟩ : S30), (⟨0, 4⟩ : S30)] : List (S30))) := ⟨_, rfl⟩
 replace H : ((polygon_Normal.f k y235).bind fun bt241 => ((polygon_Where.f k y232 1 1).bind fun bt245 => ((polygon_Where.f k y232 4 2).bind fun bt247 => ((polygon_Where.f k y238 3 3).bind fun bt249 => ((polygon_Box.f k y238).bind fun bt251 => ((polygon_Convex.f k y232).bind fun bt257 => ((polygon_Convex.f k y238).bind fun bt259 => (if bt241.2 = 0 then (if bt245.2 = 0 then (if bt247.2 = 0 then (if bt249.2 = 0 then (if bt251.2.2.2.2 = 0 then (if bt257.2 = 0 then (if bt259.2 = 0 then (if bt245.1 = 1 then (if bt247.1 = 0 then (if bt249.1 = (-1) then (if bt257.1 = true then (garmentlaw11_awake.j0 k y232 y235 bt241.1 bt259.1 bt251.1 bt251.2.1 bt251.2.2.1 bt251.2.2.2.1) else (garmentlaw11_awake.j0 k y232 y235 bt241.1 true bt251.1 bt251.2.1 bt251.2.2.1 bt251.2.2.2.1)) else (garmentlaw11_awake.j0 k y232 y235 bt241.1 true bt251.1 bt251.2.1 bt251.2.2.1 bt251.2.2.2.1)) else (garmentlaw11_awake.j0 k y232 y235 bt241.1 true bt251.1 bt251.2.1 bt251.2.2.1 bt251.2.2.2.1)) else (garmentlaw11_awake.j0 k y232 y235 bt241.1 true bt251.1 bt251.2.1 bt251.2.2.1 bt251.2.2.2.1)) else (garmentlaw11_awake.j0 k y232 y235 bt241.1 true bt251.1 bt251.2.1 bt251.2.2.1 bt251.2.2.2.1)) else (garmentlaw11_awake.j0 k y232 y235 bt241.1 true bt251.1 bt251.2.1 bt251.2.2.1 bt251.2.2.2.1)) else (garmentlaw11_awake.j0 k y232 y235 bt241.1 true bt251.1 bt251.2.1 bt251.2.2.1 bt251.2.2.2.1)) else (garmentlaw11_awake.j0 k y232 y235 bt241.1 true bt251.1 bt251.2.1 bt251.2.2.1 bt251.2.2.2.1)) else (garmentlaw11_awake.j0 k y232 y235 bt241.1 true bt251.1 bt251.2.1 bt251.2.2.1 bt251.2.2.2.1)) else (garmentlaw11_awake.j0 k y232 y235 bt241.1 true bt251.1 bt251.2.1 bt251.2.2.1 bt251.2.2.2.1)) else (garmentlaw11_awake.j0 k y232 y235 bt241.1 true bt251.1 bt251.2.1 bt251.2.2.1 bt251.2.2.2.1))))))))) = some r := by first | (rw [hy238]; with_reducible exact H) | (have H2_ := (Option.bind_some _ _).symm.trans H; rw [hy238]; with_reducible exact H2_) | (have H2_ := (Option.bind_some _ _).symm.trans H; with_reducible exact H2_) | with_reducible exact H | (rw [hy238]; exact H) | exact H
 have Ny238 := Aside0.mk hy238
 clear hy238
 replace H := Option.bind_eq_some_iff.mp H
 obtain ⟨⟨t241, t244⟩, A10, H⟩ := H
 replace H : ((polygon_Where.f k y232 1 1).bind fun bt245 => ((polygon_Where.f k y232 4 2).bind fun bt247 => ((polygon_Where.f k y238 3 3).bind fun bt249 => ((polygon_Box.f k y238).bind fun bt251 => ((polygon_Convex.f k y232).bind fun bt257 => ((polygon_Convex.f k y238).bind fun bt259 => (if t244 = 0 then (if bt245.2 = 0 then (if bt247.2 = 0 then (if bt249.2 = 0 then (if bt251.2.2.2.2 = 0 then (if bt257.2 = 0 then (if bt259.2 = 0 then (if bt245.1 = 1 then (if bt247.1 = 0 then (if bt249.1 = (-1) then (if bt257.1 = true then (garmentlaw11_awake.j0 k y232 y235 t241 bt259.1 bt251.1 bt251.2.1 bt251.2.2.1 bt251.2.2.2.1) else (garmentlaw11_awake.j0 k y232 y235 t241 true bt251.1 bt251.2.1 bt251.2.2.1 bt251.2.2.2.1)) else (garmentlaw11_awake.j0 k y232 y235 t241 true bt251.1 bt251.2.1 bt251.2.2.1 bt251.2.2.2.1)) else (garmentlaw11_awake.j0 k y232 y235 t241 true bt251.1 bt251.2.1 bt251.2.2.1 bt251.2.2.2.1)) else (garmentlaw11_awake.j0 k y232 y235 t241 true bt251.1 bt251.2.1 bt251.2.2.1 bt251.2.2.2.1)) else (garmentlaw11_awake.j0 k y232 y235 t241 true bt251.1 bt251.2.1 bt251.2.2.1 bt251.2.2.2.1)) else (garmentlaw11_awake.j0 k y232 y235 t241 true bt251.1 bt251.2.1 bt251.2.2.1 bt251.2.2.2.1)) else (garmentlaw11_awake.j0 k y232 y235 t241 true bt251.1 bt251.2.1 bt251.2.2.1 bt251.2.2.2.1)) else (garmentlaw11_awake.j0 k y232 y235 t241 true bt251.1 bt251.2.1 bt251.2.2.1 bt251.2.2.2.1)) else (garmentlaw11_awake.j0 k y232 y235 t241 true bt251.1 bt251.2.1 bt251.2.2.1 bt251.2.2.2.1)) else (garmentlaw11_awake.j0 k y232 y235 t241 true bt251.1 bt251.2.1 bt251.2.2.1 bt251.2.2.2.1)) else (garmentlaw11_awake.j0 k y232 y235 t241 true bt251.1 bt251.2.1 bt251.2.2.1 bt251.2.2.2.1)))))))) = some r := H
 have A1 := Aside0.mk A10
 clear A10
 replace H := Option.bind_eq_some_iff.mp H
 obtain ⟨⟨t245, t246⟩, A20, H⟩ := H
 replace H : ((polygon_Where.f k y232 4 2).bind fun bt247 => ((polygon_Where.f k y238 3 3).bind fun bt249 => ((polygon_Box.f k y238).bind fun bt251 => ((polygon_Convex.f k y232).bind fun bt257 => ((polygon_Convex.f k y238).bind fun bt259 => (if t244 = 0 then (if t246 = 0 then (if bt247.2 = 0 then (if bt249.2 = 0 then (if bt251.2.2.2.2 = 0 then (if bt257.2 = 0 then (if bt259.2 = 0 then (if t245 = 1 then (if bt247.1 = 0 then (if bt249.1 = (-1) then (if bt257.1 = true then (garmentlaw11_awake.j0 k y232 y235 t241 bt259.1 bt251.1 bt251.2.1 bt251.2.2.1 bt251.2.2.2.1) else (garmentlaw11_awake.j0 k y232 y235 t241 true bt251.1 bt251.2.1 bt251.2.2.1 bt251.2.2.2.1)) else (garmentlaw11_awake.j0 k y232 y235 t241 true bt251.1 bt251.2.1 bt251.2.2.1 bt251.2.2.2.1)) else (garmentlaw11_awake.j0 k y232 y235 t241 true bt251.1 bt251.2.1 bt251.2.2.1 bt251.2.2.2.1)) else (garmentlaw11_awake.j0 k y232 y235 t241 true bt251.1 bt251.2.1 bt251.2.2.1 bt251.2.2.2.1)) else (garmentlaw11_awake.j0 k y232 y235 t241 true bt251.1 bt251.2.1 bt251.2.2.1 bt251.2.2.2.1)) else (garmentlaw11_awake.j0 k y232 y235 t241 true bt251.1 bt251.2.1 bt251.2.2.1 bt251.2.2.2.1)) else (garmentlaw11_awake.j0 k y232 y235 t241 true bt251.1 bt251.2.1 bt251.2.2.1 bt251.2.2.2.1)) else (garmentlaw11_awake.j0 k y232 y235 t241 true bt251.1 bt251.2.1 bt251.2.2.1 bt251.2.2.2.1)) else (garmentlaw11_awake.j0 k y232 y235 t241 true bt251.1 bt251.2.1 bt251.2.2.1 bt251.2.2.2.1)) else (garmentlaw11_awake.j0 k y232 y235 t241 true bt251.1 bt251.2.1 bt251.2.2.1 bt251.2.2.2.1)) else (garmentlaw11_awake.j0 k y232 y235 t241 true bt251.1 bt251.2.1 bt251.2.2.1 bt251.2.2.2.1))))))) = some r := H
 have A2 := Aside0.mk A20
 clear A20
 replace H := Option.bind_eq_some_iff.mp H
 obtain ⟨⟨t247, t248⟩, A30, H⟩ := H
 replace H : ((polygon_Where.f k y238 3 3).bind fun bt249 => ((polygon_Box.f k y238).bind fun bt251 => ((polygon_Convex.f k y232).bind fun bt257 => ((polygon_Convex.f k y238).bind fun bt259 => (if t244 = 0 then (if t246 = 0 then (if t248 = 0 then (if bt249.2 = 0 then (if bt251.2.2.2.2 = 0 then (if bt257.2 = 0 then (if bt259.2 = 0 then (if t245 = 1 then (if t247 = 0 then (if bt249.1 = (-1) then (if bt257.1 = true then (garmentlaw11_awake.j0 k y232 y235 t241 bt259.1 bt251.1 bt251.2.1 bt251.2.2.1 bt251.2.2.2.1) else (garmentlaw11_awake.j0 k y232 y235 t241 true bt251.1 bt251.2.1 bt251.2.2.1 bt251.2.2.2.1)) else (garmentlaw11_awake.j0 k y232 y235 t241 true bt251.1 bt251.2.1 bt251.2.2.1 bt251.2.2.2.1)) else (garmentlaw11_awake.j0 k y232 y235 t241 true bt251.1 bt251.2.1 bt251.2.2.1 bt251.2.2.2.1)) else (garmentlaw11_awake.j0 k y232 y235 t241 true bt251.1 bt251.2.1 bt251.2.2.1 bt251.2.2.2.1)) else (garmentlaw11_awake.j0 k y232 y235 t241 true bt251.1 bt251.2.1 bt251.2.2.1 bt251.2.2.2.1)) else (garmentlaw11_awake.j0 k y232 y235 t241 true bt251.1 bt251.2.1 bt251.2.2.1 bt251.2.2.2.1)) else (garmentlaw11_awake.j0 k y232 y235 t241 true bt251.1 bt251.2.1 bt251.2.2.1 bt251.2.2.2.1)) else (garmentlaw11_awake.j0 k y232 y235 t241 true bt251.1 bt251.2.1 bt251.2.2.1 bt251.2.2.2.1)) else (garmentlaw11_awake.j0 k y232 y235 t241 true bt251.1 bt251.2.1 bt251.2.2.1 bt251.2.2.2.1)) else (garmentlaw11_awake.j0 k y232 y235 t241 true bt251.1 bt251.2.1 bt251.2.2.1 bt251.2.2.2.1)) else (garmentlaw11_awake.j0 k y232 y235 t241 true bt251.1 bt251.2.1 bt251.2.2.1 bt251.2.2.2.1)))))) = some r := H
 have A3 := Aside0.mk A30
 clear A30
 replace H := Option.bind_eq_some_iff.mp H
 obtain ⟨⟨t249, t250⟩, A40, H⟩ := H
 replace H : ((polygon_Box.f k y238).bind fun bt251 => ((polygon_Convex.f k y232).bind fun bt257 => ((polygon_Convex.f k y238).bind fun bt259 => (if t244 = 0 then (if t246 = 0 then (if t248 = 0 then (if t250 = 0 then (if bt251.2.2.2.2 = 0 then (if bt257.2 = 0 then (if bt259.2 = 0 then (if t245 = 1 then (if t247 = 0 then (if t249 = (-1) then (if bt257.1 = true then (garmentlaw11_awake.j0 k y232 y235 t241 bt259.1 bt251.1 bt251.2.1 bt251.2.2.1 bt251.2.2.2.1) else (garmentlaw11_awake.j0 k y232 y235 t241 true bt251.1 bt251.2.1 bt251.2.2.1 bt251.2.2.2.1)) else (garmentlaw11_awake.j0 k y232 y235 t241 true bt251.1 bt251.2.1 bt251.2.2.1 bt251.2.2.2.1)) else (garmentlaw11_awake.j0 k y232 y235 t241 true bt251.1 bt251.2.1 bt251.2.2.1 bt251.2.2.2.1)) else (garmentlaw11_awake.j0 k y232 y235 t241 true bt251.1 bt251.2.1 bt251.2.2.1 bt251.2.2.2.1)) else (garmentlaw11_awake.j0 k y232 y235 t241 true bt251.1 bt251.2.1 bt251.2.2.1 bt251.2.2.2.1)) else (garmentlaw11_awake.j0 k y232 y235 t241 true bt251.1 bt251.2.1 bt251.2.2.1 bt251.2.2.2.1)) else (garmentlaw11_awake.j0 k y232 y235 t241 true bt251.1 bt251.2.1 bt251.2.2.1 bt251.2.2.2.1)) else (garmentlaw11_awake.j0 k y232 y235 t241 true bt251.1 bt251.2.1 bt251.2.2.1 bt251.2.2.2.1)) else (garmentlaw11_awake.j0 k y232 y235 t241 true bt251.1 bt251.2.1 bt251.2.2.1 bt251.2.2.2.1)) else (garmentlaw11_awake.j0 k y232 y235 t241 true bt251.1 bt251.2.1 bt251.2.2.1 bt251.2.2.2.1)) else (garmentlaw11_awake.j0 k y232 y235 t241 true bt251.1 bt251.2.1 bt251.2.2.1 bt251.2.2.2.1))))) = some r := H
 have A4 := Aside0.mk A40
 clear A40
 replace H := Option.bind_eq_some_iff.mp H
 obtain ⟨⟨t251, t252, t253, t254, t255⟩, A50, H⟩ := H
 replace H : ((polygon_Convex.f k y232).bind fun bt257 => ((polygon_Convex.f k y238).bind fun bt259 => (if t244 = 0 then (if t246 = 0 then (if t248 = 0 then (if t250 = 0 then (if t255 = 0 then (if bt257.2 = 0 then (if bt259.2 = 0 then (if t245 = 1 then (if t247 = 0 then (if t249 = (-1) then (if bt257.1 = true then (garmentlaw11_awake.j0 k y232 y235 t241 bt259.1 t251 t252 t253 t254) else (garmentlaw11_awake.j0 k y232 y235 t241 true t251 t252 t253 t254)) else (garmentlaw11_awake.j0 k y232 y235 t241 true t251 t252 t253 t254)) else (garmentlaw11_awake.j0 k y232 y235 t241 true t251 t252 t253 t254)) else (garmentlaw11_awake.j0 k y232 y235 t241 true t251 t252 t253 t254)) else (garmentlaw11_awake.j0 k y232 y235 t241 true t251 t252 t253 t254)) else (garmentlaw11_awake.j0 k y232 y235 t241 true t251 t252 t253 t254)) else (garmentlaw11_awake.j0 k y232 y235 t241 true t251 t252 t253 t254)) else (garmentlaw11_awake.j0 k y232 y235 t241 true t251 t252 t253 t254)) else (garmentlaw11_awake.j0 k y232 y235 t241 true t251 t252 t253 t254)) else (garmentlaw11_awake.j0 k y232 y235 t241 true t251 t252 t253 t254)) else (garmentlaw11_awake.j0 k y232 y235 t241 true t251 t252 t253 t254)))) = some r := H
 have A5 := Aside0.mk A50
 clear A50
 replace H := Option.bind_eq_some_iff.mp H
 obtain ⟨⟨t257, t258⟩, A60, H⟩ := H
 replace H : ((polygon_Convex.f k y238).bind fun bt259 => (if t244 = 0 then (if t246 = 0 then (if t248 = 0 then (if t250 = 0 then (if t255 = 0 then (if t258 = 0 then (if bt259.2 = 0 then (if t245 = 1 then (if t247 = 0 then (if t249 = (-1) then (if t257 = true then (garmentlaw11_awake.j0 k y232 y235 t241 bt259.1 t251 t252 t253 t254) else (garmentlaw11_awake.j0 k y232 y235 t241 true t251 t252 t253 t254)) else (garmentlaw11_awake.j0 k y232 y235 t241 true t251 t252 t253 t254)) else (garmentlaw11_awake.j0 k y232 y235 t241 true t251 t252 t253 t254)) else (garmentlaw11_awake.j0 k y232 y235 t241 true t251 t252 t253 t254)) else (garmentlaw11_awake.j0 k y232 y235 t241 true t251 t252 t253 t254)) else (garmentlaw11_awake.j0 k y232 y235 t241 true t251 t252 t253 t254)) else (garmentlaw11_awake.j0 k y232 y235 t241 true t251 t252 t253 t254)) else (garmentlaw11_awake.j0 k y232 y235 t241 true t251 t252 t253 t254)) else (garmentlaw11_awake.j0 k y232 y235 t241 true t251 t252 t253 t254)) else (garmentlaw11_awake.j0 k y232 y235 t241 true t251 t252 t253 t254)) else (garmentlaw11_awake.j0 k y232 y235 t241 true t251 t252 t253 t254))) = some r := H
 have A6 := Aside0.mk A60
 clear A60
 replace H := Option.bind_eq_some_iff.mp H
 obtain ⟨⟨t259, t260⟩, A70, H⟩ := H
 replace H : (if t244 = 0 then (if t246 = 0 then (if t248 = 0 then (if t250 = 0 then (if t255 = 0 then (if t258 = 0 then (if t260 = 0 then (if t245 = 1 then (if t247 = 0 then (if t249 = (-1) then (if t257 = true then (garmentlaw11_awake.j0 k y232 y235 t241 t259 t251 t252 t253 t254) else (garmentlaw11_awake.j0 k y232 y235 t241 true t251 t252 t253 t254)) else (garmentlaw11_awake.j0 k y232 y235 t241 true t251 t252 t253 t254)) else (garmentlaw11_awake.j0 k y232 y235 t241 true t251 t252 t253 t254)) else (garmentlaw11_awake.j0 k y232 y235 t241 true t251 t252 t253 t254)) else (garmentlaw11_awake.j0 k y232 y235 t241 true t251 t252 t253 t254)) else (garmentlaw11_awake.j0 k y232 y235 t241 true t251 t252 t253 t254)) else (garmentlaw11_awake.j0 k y232 y235 t241 true t251 t252 t253 t254)) else (garmentlaw11_awake.j0 k y232 y235 t241 true t251 t252 t253 t254)) else (garmentlaw11_awake.j0 k y232 y235 t241 true t251 t252 t253 t254)) else (garmentlaw11_awake.j0 k y232 y235 t241 true t251 t252 t253 t254)) else (garmentlaw11_awake.j0 k y232 y235 t241 true t251 t252 t253 t254)) = some r := H
 have A7 := Aside0.mk A70
 clear A70
 have HC8 := Aside0.mk H
 clear H
 go_enter Try.func13, Try.ntmps13
 go_upto_region 11 with (first | ((with_reducible refine gate_dst (N := 23) rfl ?_); refine Kd.R_lit k30 _ 30 ?hg (N := 23) ?hd (xs := ([(⟨0, 0⟩ : S30), (⟨4, 0⟩ : S30), (⟨4, 4⟩ : S30), (⟨0, 4⟩ : S30)] : List (S30))) (inner := [.int .i64 0, .int .i64 0, .int .i64 4, .int .i64 0, .int .i64 4, .int .i64 4, .int .i64 0, .int .i64 4]) (ok := fun _ => True) (okp := fun _ => True) ?hr ?hp (fun _ hk => hk) trivial (Below.refl _ _) (Nat.le_refl _) (by simp) ?_; (case hd => rfl); (case hg => rfl); (case hr => first | (go_simp; done) | (go_simp; rfl)); (case hp => exact (Reps.c2 (show Kd.M k30 _ _ _ (⟨0, 0⟩ : S30) [.int .i64 0, .int .i64 0] from (k30_mkM _ _ _ (⟨0, 0⟩ : S30) )) (Reps.c2 (show Kd.M k30 _ _ _ (⟨4, 0⟩ : S30) [.int .i64 4, .int .i64 0] from (k30_mkM _ _ _ (⟨4, 0⟩ : S30) )) (Reps.c2 (show Kd.M k30 _ _ _ (⟨4, 4⟩ : S30) [.int .i64 4, .int .i64 4] from (k30_mkM _ _ _ (⟨4, 4⟩ : S30) )) (Reps.c2 (show Kd.M k30 _ _ _ (⟨0, 4⟩ : S30) [.int .i64 0, .int .i64 4] from (k30_mkM _ _ _ (⟨0, 4⟩ : S30) )) (Reps.none _ _)))))); intro v233 w9 ho10 hb hg_ hnew_; clear hg_ hnew_; (first | rw [← Ny232.out] at ho10 | (simp only [Int.reduceToNat] at ho10; rw [← Ny232.out] at ho10)); have n0_ := Aside0.mk (Kd.R_lower ho10 (below_size (by repeat (first | exact HB.out | apply below_alloc | apply pw_below_drewN | apply below_drew1)))); have n1_ := Aside0.mk (below_step (by repeat (first | exact HB.out | apply below_alloc | apply pw_below_drewN | apply below_drew1)) hb); clear HB; have HO234 := n0_; have HB := n1_; clear n0_ n1_; clear hb ho10) | ((with_reducible refine gate_dst (N := 29) rfl ?_); refine Kd.R_lit k30 _ 30 ?hg (N := 29) ?hd (xs := ([(⟨4, 4⟩ : S30), (⟨4, 0⟩ : S30), (⟨2, 0⟩ : S30), (⟨0, 0⟩ : S30), (⟨0, 4⟩ : S30)] : List (S30))) (inner := [.int .i64 4, .int .i64 4, .int .i64 4, .int .i64 0, .int .i64 2, .int .i64 0, .int .i64 0, .int .i64 0, .int .i64 0, .int .i64 4]) (ok := fun _ => True) (okp := fun _ => True) ?hr ?hp (fun _ hk => hk) trivial (Below.refl _ _) (Nat.le_refl _) (by simp) ?_; (case hd => rfl); (case hg => rfl); (case hr => first | (go_simp; done) | (go_simp; rfl)); (case hp => exact (Reps.c2 (show Kd.M k30 _ _ _ (⟨4, 4⟩ : S30) [.int .i64 4, .int .i64 4] from (k30_mkM _ _ _ (⟨4, 4⟩ : S30) )) (Reps.c2 (show Kd.M k30 _ _ _ (⟨4, 0⟩ : S30) [.int .i64 4, .int .i64 0] from (k30_mkM _ _ _ (⟨4, 0⟩ : S30) )) (Reps.c2 (show Kd.M k30 _ _ _ (⟨2, 0⟩ : S30) [.int .i64 2, .int .i64 0] from (k30_mkM _ _ _ (⟨2, 0⟩ : S30) )) (Reps.c2 (show Kd.M k30 _ _ _ (⟨0, 0⟩ : S30) [.int .i64 0, .int .i64 0] from (k30_mkM _ _ _ (⟨0, 0⟩ : S30) )) (Reps.c2 (show Kd.M k30 _ _ _ (⟨0, 4⟩ : S30) [.int .i64 0, .int .i64 4] from (k30_mkM _ _ _ (⟨0, 4⟩ : S30) )) (Reps.none _ _))))))); intro v236 w11 ho12 hb hg_ hnew_; clear hg_ hnew_; (first | rw [← Ny235.out] at ho12 | (simp only [Int.reduceToNat] at ho12; rw [← Ny235.out] at ho12)); have n0_ := Aside0.mk (Kd.R_elder' (by (with_reducible repeat (first | apply Kd.R_alloc | apply Kd.R_drewN | apply Kd.R_drew)); exact HO234.out) (Kd.R_base ho12) hb); have n1_ := Aside0.mk (Kd.R_lower (Kd.R_new' ho12 (Kd.R_lt (by (with_reducible repeat (first | apply Kd.R_alloc | apply Kd.R_drewN | apply Kd.R_drew)); exact HO234.out))) (below_size (by repeat (first | exact HB.out | apply below_alloc | apply pw_below_drewN | apply below_drew1)))); have n2_ := Aside0.mk (below_step (by repeat (first | exact HB.out | apply below_alloc | apply pw_below_drewN | apply below_drew1)) hb); clear HO234; clear HB; have HO234 := n0_; have HO237 := n1_; have HB := n2_; clear n0_ n1_ n2_; clear hb ho12) | ((with_reducible refine gate_dst (N := 36) rfl ?_); refine Kd.R_lit k30 _ 30 ?hg (N := 36) ?hd (xs := ([(⟨0, 0⟩ : S30), (⟨4, 0⟩ : S30), (⟨4, 2⟩ : S30), (⟨2, 2⟩ : S30), (⟨2, 4⟩ : S30), (⟨0, 4⟩ : S30)] : List (S30))) (inner := [.int .i64 0, .int .i64 0, .int .i64 4, .int .i64 0, .int .i64 4, .int .i64 2, .int .i64 2, .int .i64 2, .int .i64 2, .int .i64 4, .int .i64 0, .int .i64 4]) (ok := fun _ => True) (okp := fun _ => True) ?hr ?hp (fun _ hk => hk) trivial (Below.refl _ _) (Nat.le_refl _) (by simp) ?_; (case hd => rfl); (case hg => rfl); (case hr => first | (go_simp; done) | (go_simp; rfl)); (case hp => exact (Reps.c2 (show Kd.M k30 _ _ _ (⟨0, 0⟩ : S30) [.int .i64 0, .int .i64 0] from (k30_mkM _ _ _ (⟨0, 0⟩ : S30) )) (Reps.c2 (show Kd.M k30 _ _ _ (⟨4, 0⟩ : S30) [.int .i64 4, .int .i64 0] from (k30_mkM _ _ _ (⟨4, 0⟩ : S30) )) (Reps.c2 (show Kd.M k30 _ _ _ (⟨4, 2⟩ : S30) [.int .i64 4, .int .i64 2] from (k30_mkM _ _ _ (⟨4, 2⟩ : S30) )) (Reps.c2 (show Kd.M k30 _ _ _ (⟨2, 2⟩ : S30) [.int .i64 2, .int .i64 2] from (k30_mkM _ _ _ (⟨2, 2⟩ : S30) )) (Reps.c2 (show Kd.M k30 _ _ _ (⟨2, 4⟩ : S30) [.int .i64 2, .int .i64 4] from (k30_mkM _ _ _ (⟨2, 4⟩ : S30) )) (Reps.c2 (show Kd.M k30 _ _ _ (⟨0, 4⟩ : S30) [.int .i64 0, .int .i64 4] from (k30_mkM _ _ _ (⟨0, 4⟩ : S30) )) (Reps.none _ _)))))))); intro v239 w13 ho14 hb hg_ hnew_; clear hg_ hnew_; (first | rw [← Ny238.out] at ho14 | (simp only [Int.reduceToNat] at ho14; rw [← Ny238.out] at ho14)); have n0_ := Aside0.mk (Kd.R_elder' (by (with_reducible repeat (first | apply Kd.R_alloc | apply Kd.R_drewN | apply Kd.R_drew)); exact HO234.out) (Kd.R_base ho14) hb); have n1_ := Aside0.mk (Kd.R_elder' (by (with_reducible repeat (first | apply Kd.R_alloc | apply Kd.R_drewN | apply Kd.R_drew)); exact HO237.out) (Kd.R_base ho14) hb); have n2_ := Aside0.mk (Kd.R_lower (Kd.R_new' (Kd.R_new' ho14 (Kd.R_lt (by (with_reducible repeat (first | apply Kd.R_alloc | apply Kd.R_drewN | apply Kd.R_drew)); exact HO234.out))) (Kd.R_lt (by (with_reducible repeat (first | apply Kd.R_alloc | apply Kd.R_drewN | apply Kd.R_drew)); exact HO237.out))) (below_size (by repeat (first | exact HB.out | apply below_alloc | apply pw_below_drewN | apply below_drew1)))); have n3_ := Aside0.mk (below_step (by repeat (first | exact HB.out | apply below_alloc | apply pw_below_drewN | apply below_drew1)) hb); clear HO234; clear HO237; clear HB; have HO234 := n0_; have HO237 := n1_; have HO240 := n2_; have HB := n3_; clear n0_ n1_ n2_ n3_; clear hb ho14; obtain ⟨Ao15, co15, eo15⟩ := Kd.R_slice HO237.out; subst eo15) | ((with_reducible refine gate_callee (f := 14) rfl ?_); refine goesL_ (some 39) rfl rfl Try.func14 (by kernel_rfl) rfl #[.slice Ao15 y235.length co15] rfl (by (try simp only [List.map_toArray, List.map_cons, List.map_nil]); first | done | rfl | (simp only [List.length_drop, List.length_take]; rfl)) ?_; (with_reducible refine (polygon_Normal.calls k _ _ y235 t241 t244 _ ?side1 ?side2 A1.out).mono ?_); (case side1 => repeat (first | exact (Kd.R_reads' HO237.out).2.2 | (with_reducible refine Kd.C_alloc ?_ _) | (with_reducible refine Kd.C_drewN ?_ _) | (with_reducible refine Kd.C_drew ?_))); (case side2 => exact (Kd.R_reads' HO237.out).2.1); rintro e w16 ⟨v242, rfl, ho0, hb⟩; refine ⟨_, rfl, ?_⟩; have n0_ := Aside0.mk (Kd.R_below (by (with_reducible repeat (first | apply Kd.R_alloc | apply Kd.R_drewN | apply Kd.R_drew)); exact HO234.out) hb); have n1_ := Aside0.mk (Kd.R_below (by (with_reducible repeat (first | apply Kd.R_alloc | apply Kd.R_drewN | apply Kd.R_drew)); exact HO237.out) hb); have n2_ := Aside0.mk (Kd.R_below (by (with_reducible repeat (first | apply Kd.R_alloc | apply Kd.R_drewN | apply Kd.R_drew)); exact HO240.out) hb); have n3_ := Aside0.mk (Kd.V_lower (Kd.V_mono (ok' := fun k_ => some k_ ≠ (v233 : Value).ownBlock ∧ some k_ ≠ (.slice Ao15 y235.length co15 : Value).ownBlock ∧ some k_ ≠ (v239 : Value).ownBlock) ho0 (fun k_ hk_ => ⟨(Kd.fresh' (Kd.R_lt (by (with_reducible repeat (first | apply Kd.R_alloc | apply Kd.R_drewN | apply Kd.R_drew)); exact HO234.out)) k_ hk_), (Kd.fresh' (Kd.R_lt (by (with_reducible repeat (first | apply Kd.R_alloc | apply Kd.R_drewN | apply Kd.R_drew)); exact HO237.out)) k_ hk_), (Kd.fresh' (Kd.R_lt (by (with_reducible repeat (first | apply Kd.R_alloc | apply Kd.R_drewN | apply Kd.R_drew)); exact HO240.out)) k_ hk_)⟩)) (below_size (by repeat (first | exact HB.out | apply below_alloc | apply pw_below_drewN | apply below_drew1)))); have n4_ := Aside0.mk (below_step (by repeat (first | exact HB.out | apply below_alloc | apply pw_below_drewN | apply below_drew1)) hb); clear HO234; clear HO237; clear HO240; clear HB; have HO234 := n0_; have HO237 := n1_; have HO240 := n2_; have HO243 := n3_; have HB := n4_; clear n0_ n1_ n2_ n3_ n4_; (try clear hb); (try clear hb2); (try clear hk); (try clear hi); (try clear ho0); obtain ⟨Ao17, co17, eo17⟩ := Kd.R_slice HO234.out; subst eo17) | ((with_reducible refine gate_callee (f := 17) rfl ?_); refine goesL_ (some 45) rfl rfl Try.func17 (by kernel_rfl) rfl #[.slice Ao17 y232.length co17, .agg #[.int .i64 1, .int .i64 1]] rfl (by (try simp only [List.map_toArray, List.map_cons, List.map_nil]); first | done | rfl | (simp only [List.length_drop, List.length_take]; rfl)) ?_; (with_reducible refine (polygon_Where.calls k _ _ y232 1 1 t245 t246 _ ?side1 ?side2 A2.out).mono ?_); (case side1 => repeat (first | exact (Kd.R_reads' HO234.out).2.2 | (with_reducible refine Kd.C_alloc ?_ _) | (with_reducible refine Kd.C_drewN ?_ _) | (with_reducible refine Kd.C_drew ?_))); (case side2 => exact (Kd.R_reads' HO234.out).2.1); rintro e w18 ⟨rfl, hb⟩; refine ⟨_, rfl, ?_⟩; have n0_ := Aside0.mk (Kd.R_below (by (with_reducible repeat (first | apply Kd.R_alloc | apply Kd.R_drewN | apply Kd.R_drew)); exact HO234.out) hb); have n1_ := Aside0.mk (Kd.R_below (by (with_reducible repeat (first | apply Kd.R_alloc | apply Kd.R_drewN | apply Kd.R_drew)); exact HO237.out) hb); have n2_ := Aside0.mk (Kd.R_below (by (with_reducible repeat (first | apply Kd.R_alloc | apply Kd.R_drewN | apply Kd.R_drew)); exact HO240.out) hb); have n3_ := Aside0.mk (Kd.V_below (by (with_reducible repeat (first | apply Kd.V_alloc | apply Kd.V_drewN | apply Kd.V_drew)); exact HO243.out) hb); have n4_ := Aside0.mk (below_step (by repeat (first | exact HB.out | apply below_alloc | apply pw_below_drewN | apply below_drew1)) hb); clear HO234; clear HO237; clear HO240; clear HO243; clear HB; have HO234 := n0_; have HO237 := n1_; have HO240 := n2_; have HO243 := n3_; have HB := n4_; clear n0_ n1_ n2_ n3_ n4_; (try clear hb); (try clear hb2); (try clear hk); (try clear hi)) | ((with_reducible refine gate_callee (f := 17) rfl ?_); refine goesL_ (some 51) rfl rfl Try.func17 (by kernel_rfl) rfl #[.slice Ao17 y232.length co17, .agg #[.int .i64 4, .int .i64 2]] rfl (by (try simp only [List.map_toArray, List.map_cons, List.map_nil]); first | done | rfl | (simp only [List.length_drop, List.length_take]; rfl)) ?_; (with_reducible refine (polygon_Where.calls k _ _ y232 4 2 t247 t248 _ ?side1 ?side2 A3.out).mono ?_); (case side1 => repeat (first | exact (Kd.R_reads' HO234.out).2.2 | (with_reducible refine Kd.C_alloc ?_ _) | (with_reducible refine Kd.C_drewN ?_ _) | (with_reducible refine Kd.C_drew ?_))); (case side2 => exact (Kd.R_reads' HO234.out).2.1); rintro e w19 ⟨rfl, hb⟩; refine ⟨_, rfl, ?_⟩; have n0_ := Aside0.mk (Kd.R_below (by (with_reducible repeat (first | apply Kd.R_alloc | apply Kd.R_drewN | apply Kd.R_drew)); exact HO234.out) hb); have n1_ := Aside0.mk (Kd.R_below (by (with_reducible repeat (first | apply Kd.R_alloc | apply Kd.R_drewN | apply Kd.R_drew)); exact HO237.out) hb); have n2_ := Aside0.mk (Kd.R_below (by (with_reducible repeat (first | apply Kd.R_alloc | apply Kd.R_drewN | apply Kd.R_drew)); exact HO240.out) hb); have n3_ := Aside0.mk (Kd.V_below (by (with_reducible repeat (first | apply Kd.V_alloc | apply Kd.V_drewN | apply Kd.V_drew)); exact HO243.out) hb); have n4_ := Aside0.mk (below_step (by repeat (first | exact HB.out | apply below_alloc | apply pw_below_drewN | apply below_drew1)) hb); clear HO234; clear HO237; clear HO240; clear HO243; clear HB; have HO234 := n0_; have HO237 := n1_; have HO240 := n2_; have HO243 := n3_; have HB := n4_; clear n0_ n1_ n2_ n3_ n4_; (try clear hb); (try clear hb2); (try clear hk); (try clear hi); obtain ⟨Ao20, co20, eo20⟩ := Kd.R_slice HO240.out; subst eo20) | ((with_reducible refine gate_callee (f := 17) rfl ?_); refine goesL_ (some 57) rfl rfl Try.func17 (by kernel_rfl) rfl #[.slice Ao20 y238.length co20, .agg #[.int .i64 3, .int .i64 3]] rfl (by (try simp only [List.map_toArray, List.map_cons, List.map_nil]); first | done | rfl | (simp only [List.length_drop, List.length_take]; rfl)) ?_; (with_reducible refine (polygon_Where.calls k _ _ y238 3 3 t249 t250 _ ?side1 ?side2 A4.out).mono ?_); (case side1 => repeat (first | exact (Kd.R_reads' HO240.out).2.2 | (with_reducible refine Kd.C_alloc ?_ _) | (with_reducible refine Kd.C_drewN ?_ _) | (with_reducible refine Kd.C_drew ?_))); (case side2 => exact (Kd.R_reads' HO240.out).2.1); rintro e w21 ⟨rfl, hb⟩; refine ⟨_, rfl, ?_⟩; have n0_ := Aside0.mk (Kd.R_below (by (with_reducible repeat (first | apply Kd.R_alloc | apply Kd.R_drewN | apply Kd.R_drew)); exact HO234.out) hb); have n1_ := Aside0.mk (Kd.R_below (by (with_reducible repeat (first | apply Kd.R_alloc | apply Kd.R_drewN | apply Kd.R_drew)); exact HO237.out) hb); have n2_ := Aside0.mk (Kd.R_below (by (with_reducible repeat (first | apply Kd.R_alloc | apply Kd.R_drewN | apply Kd.R_drew)); exact HO240.out) hb); have n3_ := Aside0.mk (Kd.V_below (by (with_reducible repeat (first | apply Kd.V_alloc | apply Kd.V_drewN | apply Kd.V_drew)); exact HO243.out) hb); have n4_ := Aside0.mk (below_step (by repeat (first | exact HB.out | apply below_alloc | apply pw_below_drewN | apply below_drew1)) hb); clear HO234; clear HO237; clear HO240; clear HO243; clear HB; have HO234 := n0_; have HO237 := n1_; have HO240 := n2_; have HO243 := n3_; have HB := n4_; clear n0_ n1_ n2_ n3_ n4_; (try clear hb); (try clear hb2); (try clear hk); (try clear hi)) | ((with_reducible refine gate_callee (f := 24) rfl ?_); refine goesL_ (some 62) rfl rfl Try.func24 (by kernel_rfl) rfl #[.slice Ao20 y238.length co20] rfl (by (try simp only [List.map_toArray, List.map_cons, List.map_nil]); first | done | rfl | (simp only [List.length_drop, List.length_take]; rfl)) ?_; (with_reducible refine (polygon_Box.calls k _ _ y238 t251 t252 t253 t254 t255 _ ?side1 ?side2 A5.out).mono ?_); (case side1 => repeat (first | exact (Kd.R_reads' HO240.out).2.2 | (with_reducible refine Kd.C_alloc ?_ _) | (with_reducible refine Kd.C_drewN ?_ _) | (with_reducible refine Kd.C_drew ?_))); (case side2 => exact (Kd.R_reads' HO240.out).2.1); rintro e w22 ⟨rfl, hb⟩; refine ⟨_, rfl, ?_⟩; have n0_ := Aside0.mk (Kd.R_below (by (with_reducible repeat (first | apply Kd.R_alloc | apply Kd.R_drewN | apply Kd.R_drew)); exact HO234.out) hb); have n1_ := Aside0.mk (Kd.R_below (by (with_reducible repeat (first | apply Kd.R_alloc | apply Kd.R_drewN | apply Kd.R_drew)); exact HO237.out) hb); have n2_ := Aside0.mk (Kd.R_below (by (with_reducible repeat (first | apply Kd.R_alloc | apply Kd.R_drewN | apply Kd.R_drew)); exact HO240.out) hb); have n3_ := Aside0.mk (Kd.V_below (by (with_reducible repeat (first | apply Kd.V_alloc | apply Kd.V_drewN | apply Kd.V_drew)); exact HO243.out) hb); have n4_ := Aside0.mk (below_step (by repeat (first | exact HB.out | apply below_alloc | apply pw_below_drewN | apply below_drew1)) hb); clear HO234; clear HO237; clear HO240; clear HO243; clear HB; have HO234 := n0_; have HO237 := n1_; have HO240 := n2_; have HO243 := n3_; have HB := n4_; clear n0_ n1_ n2_ n3_ n4_; (try clear hb); (try clear hb2); (try clear hk); (try clear hi)) | ((with_reducible refine gate_dst (N := 12) rfl ?_); refine box_event ?hg (N := 12) ?hd (cs := #[.int .i64 0, .int .i64 0, .int .i64 0, .int .i64 0]) (t := 41) ?hr ?_; (case hd => rfl); (case hg => rfl); (case hr => first | (go_simp; done) | (go_simp; rfl)); intro gb256 hg w23 hbox hb; have n0_ := Aside0.mk (Kd.R_below (by (with_reducible repeat (first | apply Kd.R_alloc | apply Kd.R_drewN | apply Kd.R_drew)); exact HO234.out) hb); have n1_ := Aside0.mk (Kd.R_below (by (with_reducible repeat (first | apply Kd.R_alloc | apply Kd.R_drewN | apply Kd.R_drew)); exact HO237.out) hb); have n2_ := Aside0.mk (Kd.R_below (by (with_reducible repeat (first | apply Kd.R_alloc | apply Kd.R_drewN | apply Kd.R_drew)); exact HO240.out) hb); have n3_ := Aside0.mk (Kd.V_below (Kd.V_elderB (by (with_reducible repeat (first | apply Kd.V_alloc | apply Kd.V_drewN | apply Kd.V_drew)); exact HO243.out) gb256 (Nat.le_of_eq hg.symm)) hb); have n4_ := Aside0.mk (below_step (by repeat (first | exact HB.out | apply below_alloc | apply pw_below_drewN | apply below_drew1)) hb); have n5_ := Aside0.mk (hbox); have n6_ := Aside0.mk ((by rw [hg]; exact (below_size (by repeat (first | exact HB.out | apply below_alloc | apply pw_below_drewN | apply below_drew1))) : w.heap.size ≤ gb256)); have n7_ := Aside0.mk ((by rw [hg]; exact (below_size (by repeat (first | exact HB.out | apply below_alloc | apply pw_below_drewN | apply below_drew1))) : w.heap.size ≤ gb256)); clear HO234; clear HO237; clear HO240; clear HO243; clear HB; have HO234 := n0_; have HO237 := n1_; have HO240 := n2_; have HO243 := n3_; have HB := n4_; have BK256 := n5_; have GW256 := n6_; have GE256 := n7_; clear n0_ n1_ n2_ n3_ n4_ n5_ n6_ n7_; clear hb hbox hg; have hcz24_0 : w23.cell? ⟨gb256, 0, none⟩ = some (.int .i64 0) := (blk_cell BK256.out 0).trans rfl; have hcz24_1 : w23.cell? ⟨gb256, 1, none⟩ = some (.int .i64 0) := (blk_cell BK256.out 1).trans rfl; have hcz24_2 : w23.cell? ⟨gb256, 2, none⟩ = some (.int .i64 0) := (blk_cell BK256.out 2).trans rfl; have hcz24_3 : w23.cell? ⟨gb256, 3, none⟩ = some (.int .i64 0) := (blk_cell BK256.out 3).trans rfl; have hfz24_0 := blk_frozen BK256.out 0; have hfz24_1 := blk_frozen BK256.out 1; have hfz24_2 := blk_frozen BK256.out 2; have hfz24_3 := blk_frozen BK256.out 3) | ((with_reducible refine gate_callee (f := 26) rfl ?_); refine goesL_ (some 67) rfl rfl Try.func26 (by kernel_rfl) rfl #[.slice Ao17 y232.length co17] rfl (by (try simp only [List.map_toArray, List.map_cons, List.map_nil]); first | done | rfl | (simp only [List.length_drop, List.length_take]; rfl)) ?_; (with_reducible refine (polygon_Convex.calls k _ _ y232 t257 t258 _ ?side1 ?side2 A6.out).mono ?_); (case side1 => refine (Kd.R_reads' (e := 30) (base := w.heap.size) (ok := fun k_ => ((True ∧ some k_ ≠ (.slice Ao15 y235.length co15 : Value).ownBlock) ∧ some k_ ≠ (.slice Ao20 y238.length co20 : Value).ownBlock)) (n := y232.length) (c := co17) ?_).2.2; exact (by (with_reducible repeat (first | apply Kd.R_alloc | apply Kd.R_drewN | apply Kd.R_drew)); exact (Kd.R_mono (Kd.R_far (p := ⟨gb256, 3, none⟩) (Kd.R_far (p := ⟨gb256, 2, none⟩) (Kd.R_far (p := ⟨gb256, 1, none⟩) (Kd.R_far (p := ⟨gb256, 0, none⟩) (Kd.R_types HO234.out BK256.out (by decide)) (fun _ hk => hk.2) (.int .i64 t251)) (fun _ hk => hk.2) (.int .i64 t252)) (fun _ hk => hk.2) (.int .i64 t253)) (fun _ hk => hk.2) (.int .i64 t254)) (fun _ h_ => h_.1)))); (case side2 => exact (Kd.R_reads' HO234.out).2.1); rintro e w25 ⟨rfl, hb⟩; refine ⟨_, rfl, ?_⟩; have n0_ := Aside0.mk (Kd.R_below (by (with_reducible repeat (first | apply Kd.R_alloc | apply Kd.R_drewN | apply Kd.R_drew)); exact (Kd.R_mono (Kd.R_far (p := ⟨gb256, 3, none⟩) (Kd.R_far (p := ⟨gb256, 2, none⟩) (Kd.R_far (p := ⟨gb256, 1, none⟩) (Kd.R_far (p := ⟨gb256, 0, none⟩) (Kd.R_types HO234.out BK256.out (by decide)) (fun _ hk => hk.2) (.int .i64 t251)) (fun _ hk => hk.2) (.int .i64 t252)) (fun _ hk => hk.2) (.int .i64 t253)) (fun _ hk => hk.2) (.int .i64 t254)) (fun _ h_ => h_.1))) hb); have n1_ := Aside0.mk (Kd.R_below (by (with_reducible repeat (first | apply Kd.R_alloc | apply Kd.R_drewN | apply Kd.R_drew)); exact (Kd.R_mono (Kd.R_far (p := ⟨gb256, 3, none⟩) (Kd.R_far (p := ⟨gb256, 2, none⟩) (Kd.R_far (p := ⟨gb256, 1, none⟩) (Kd.R_far (p := ⟨gb256, 0, none⟩) (Kd.R_types HO237.out BK256.out (by decide)) (fun _ hk => hk.2) (.int .i64 t251)) (fun _ hk => hk.2) (.int .i64 t252)) (fun _ hk => hk.2) (.int .i64 t253)) (fun _ hk => hk.2) (.int .i64 t254)) (fun _ h_ => h_.1))) hb); have n2_ := Aside0.mk (Kd.R_below (by (with_reducible repeat (first | apply Kd.R_alloc | apply Kd.R_drewN | apply Kd.R_drew)); exact (Kd.R_mono (Kd.R_far (p := ⟨gb256, 3, none⟩) (Kd.R_far (p := ⟨gb256, 2, none⟩) (Kd.R_far (p := ⟨gb256, 1, none⟩) (Kd.R_far (p := ⟨gb256, 0, none⟩) (Kd.R_types HO240.out BK256.out (by decide)) (fun _ hk => hk.2) (.int .i64 t251)) (fun _ hk => hk.2) (.int .i64 t252)) (fun _ hk => hk.2) (.int .i64 t253)) (fun _ hk => hk.2) (.int .i64 t254)) (fun _ h_ => h_.1))) hb); have n3_ := Aside0.mk (Kd.V_below (by (with_reducible repeat (first | apply Kd.V_alloc | apply Kd.V_drewN | apply Kd.V_drew)); exact (Kd.V_mono (Kd.V_far (p := ⟨gb256, 3, none⟩) (Kd.V_far (p := ⟨gb256, 2, none⟩) (Kd.V_far (p := ⟨gb256, 1, none⟩) (Kd.V_far (p := ⟨gb256, 0, none⟩) (Kd.V_mono HO243.out (fun k_ hk => (⟨hk, hk.2⟩ : _ ∧ k_ ≠ gb256))) (fun _ hk => hk.2) (.int .i64 t251)) (fun _ hk => hk.2) (.int .i64 t252)) (fun _ hk => hk.2) (.int .i64 t253)) (fun _ hk => hk.2) (.int .i64 t254)) (fun _ h_ => h_.1))) hb); have n4_ := Aside0.mk (blk_below (g := gb256) (o := .cells #[.int .i64 t251, .int .i64 t252, .int .i64 t253, .int .i64 t254] 41 (0, 0)) (by (with_reducible repeat (first | refine blk_drewN ?_ _ | refine blk_drew ?_ | refine blk_alloc ?_ _)); refine blk_put (cs := #[.int .i64 t251, .int .i64 t252, .int .i64 t253, .int .i64 0]) ?_ 3 _ rfl; (with_reducible repeat (first | refine blk_drewN ?_ _ | refine blk_drew ?_ | refine blk_alloc ?_ _)); refine blk_put (cs := #[.int .i64 t251, .int .i64 t252, .int .i64 0, .int .i64 0]) ?_ 2 _ rfl; (with_reducible repeat (first | refine blk_drewN ?_ _ | refine blk_drew ?_ | refine blk_alloc ?_ _)); refine blk_put (cs := #[.int .i64 t251, .int .i64 0, .int .i64 0, .int .i64 0]) ?_ 1 _ rfl; (with_reducible repeat (first | refine blk_drewN ?_ _ | refine blk_drew ?_ | refine blk_alloc ?_ _)); refine blk_put (cs := #[.int .i64 0, .int .i64 0, .int .i64 0, .int .i64 0]) ?_ 0 _ rfl; (with_reducible repeat (first | refine blk_drewN ?_ _ | refine blk_drew ?_ | refine blk_alloc ?_ _)); exact BK256.out) hb); have n5_ := Aside0.mk (below_step (by repeat (first | exact HB.out | apply below_alloc | apply pw_below_drewN | apply below_drew1 | refine below_set ?_ GE256.out)) hb); clear HO234; clear HO237; clear HO240; clear HO243; clear BK256; clear HB; have HO234 := n0_; have HO237 := n1_; have HO240 := n2_; have HO243 := n3_; have BK256 := n4_; have HB := n5_; clear n0_ n1_ n2_ n3_ n4_ n5_; (try clear hb); (try clear hb2); (try clear hk); (try clear hi)) | ((with_reducible refine gate_callee (f := 26) rfl ?_); refine goesL_ (some 72) rfl rfl Try.func26 (by kernel_rfl) rfl #[.slice Ao20 y238.length co20] rfl (by (try simp only [List.map_toArray, List.map_cons, List.map_nil]); first | done | rfl | (simp only [List.length_drop, List.length_take]; rfl)) ?_; (with_reducible refine (polygon_Convex.calls k _ _ y238 t259 t260 _ ?side1 ?side2 A7.out).mono ?_); (case side1 => repeat (first | exact (Kd.R_reads' HO240.out).2.2 | (with_reducible refine Kd.C_alloc ?_ _) | (with_reducible refine Kd.C_drewN ?_ _) | (with_reducible refine Kd.C_drew ?_))); (case side2 => exact (Kd.R_reads' HO240.out).2.1); rintro e w26 ⟨rfl, hb⟩; refine ⟨_, rfl, ?_⟩; have n0_ := Aside0.mk (Kd.R_below (by (with_reducible repeat (first | apply Kd.R_alloc | apply Kd.R_drewN | apply Kd.R_drew)); exact HO234.out) hb); have n1_ := Aside0.mk (Kd.R_below (by (with_reducible repeat (first | apply Kd.R_alloc | apply Kd.R_drewN | apply Kd.R_drew)); exact HO237.out) hb); have n2_ := Aside0.mk (Kd.R_below (by (with_reducible repeat (first | apply Kd.R_alloc | apply Kd.R_drewN | apply Kd.R_drew)); exact HO240.out) hb); have n3_ := Aside0.mk (Kd.V_below (by (with_reducible repeat (first | apply Kd.V_alloc | apply Kd.V_drewN | apply Kd.V_drew)); exact HO243.out) hb); have n4_ := Aside0.mk (blk_below (g := gb256) (o := .cells #[.int .i64 t251, .int .i64 t252, .int .i64 t253, .int .i64 t254] 41 (0, 0)) (by (with_reducible repeat (first | refine blk_drewN ?_ _ | refine blk_drew ?_ | refine blk_alloc ?_ _)); exact BK256.out) hb); have n5_ := Aside0.mk (below_step (by repeat (first | exact HB.out | apply below_alloc | apply pw_below_drewN | apply below_drew1 | refine below_set ?_ GE256.out)) hb); clear HO234; clear HO237; clear HO240; clear HO243; clear BK256; clear HB; have HO234 := n0_; have HO237 := n1_; have HO240 := n2_; have HO243 := n3_; have BK256 := n4_; have HB := n5_; clear n0_ n1_ n2_ n3_ n4_ n5_; (try clear hb); (try clear hb2); (try clear hk); (try clear hi)))
 (try simp only [Act.put, List.setIfInBounds_toArray, List.set_cons_zero, List.set_cons_succ])
 go_cut [119] (fun v119 wc => ∃ (kq : Nat) (x119_7 : Bool), v119 = .bool x119_7 ∧ Aside0 (garmentlaw11_awake.j0 kq y232 y235 t241 x119_7 t251 t252 t253 t254 = some r) ∧ Aside0 (kq ≤ k) ∧ Aside0 (Kd.R k30 30 wc w.heap.size (fun k_ => some k_ ≠ ((.slice Ao15 y235.length co15) : Value).ownBlock) (.slice Ao17 y232.length co17) y232) ∧ Aside0 (Kd.R k30 30 wc w.heap.size (fun k_ => some k_ ≠ ((.slice Ao17 y232.length co17) : Value).ownBlock) (.slice Ao15 y235.length co15) y235) ∧ Aside0 (Kd.V k30 30 wc w.heap.size (fun k_ => some k_ ≠ ((.slice Ao17 y232.length co17) : Value).ownBlock ∧ some k_ ≠ ((.slice Ao15 y235.length co15) : Value).ownBlock ∧ k_ ≠ gb256) v242 t241) ∧ Aside0 (wc.heap[gb256]? = some (.cells #[.int .i64 t251, .int .i64 t252, .int .i64 t253, .int .i64 t254] 41 (0, 0))) ∧ Aside0 (Below w.heap.size w wc))
 case first =>
  have H := HC8.out
  clear HC8
  by_cases c27 : t244 = 0
  ·rw [if_pos c27] at H
   have c27b0 : (t244 == 0) = true := beq_iff_eq.mpr c27
   have c27b1 : (t244 != 0) = false := bne_eq_false_iff_eq.mpr c27
   clear c27
   (first | rw [c27b0] | (simp only [i64_w, i32_w]; rw [c27b0]) | skip)
   by_cases c28 : t246 = 0
   ·rw [if_pos c28] at H
    have c28b0 : (t246 == 0) = true := beq_iff_eq.mpr c28
    have c28b1 : (t246 != 0) = false := bne_eq_false_iff_eq.mpr c28
    clear c28
    by_cases c29 : t248 = 0
    ·rw [if_pos c29] at H
     have c29b0 : (t248 == 0) = true := beq_iff_eq.mpr c29
     have c29b1 : (t248 != 0) = false := bne_eq_false_iff_eq.mpr c29
     clear c29
     by_cases c30 : t250 = 0
     ·rw [if_pos c30] at H
      have c30b0 : (t250 == 0) = true := beq_iff_eq.mpr c30
      have c30b1 : (t250 != 0) = false := bne_eq_false_iff_eq.mpr c30
      clear c30
      by_cases c31 : t255 = 0
      ·rw [if_pos c31] at H
       have c31b0 : (t255 == 0) = true := beq_iff_eq.mpr c31
       have c31b1 : (t255 != 0) = false := bne_eq_false_iff_eq.mpr c31
       clear c31
       by_cases c32 : t258 = 0
       ·rw [if_pos c32] at H
        have c32b0 : (t258 == 0) = true := beq_iff_eq.mpr c32
        have c32b1 : (t258 != 0) = false := bne_eq_false_iff_eq.mpr c32
        clear c32
        by_cases c33 : t260 = 0
        ·rw [if_pos c33] at H
         have c33b0 : (t260 == 0) = true := beq_iff_eq.mpr c33
         have c33b1 : (t260 != 0) = false := bne_eq_false_iff_eq.mpr c33
         clear c33
         by_cases c34 : t245 = 1
         ·rw [if_pos c34] at H
          have c34b0 : (t245 == 1) = true := beq_iff_eq.mpr c34
          have c34b1 : (t245 != 1) = false := bne_eq_false_iff_eq.mpr c34
          clear c34
          by_cases c35 : t247 = 0
          ·rw [if_pos c35] at H
           have c35b0 : (t247 == 0) = true := beq_iff_eq.mpr c35
           have c35b1 : (t247 != 0) = false := bne_eq_false_iff_eq.mpr c35
           clear c35
           by_cases c36 : t249 = (-1)
           ·rw [if_pos c36] at H
            have c36b0 : (t249 == (-1)) = true := beq_iff_eq.mpr c36
            have c36b1 : (t249 != (-1)) = false := bne_eq_false_iff_eq.mpr c36
            clear c36
            by_cases c37 : t257 = true
            ·subst c37
             have H1 : (garmentlaw11_awake.j0 k y232 y235 t241 t259 t251 t252 t253 t254) = some r := by rw [if_pos rfl] at H; exact H
             clear H
             have H := H1
             clear H1
             have H' := Aside0.mk H
             clear H
             go_wp2
             go_meet
             case rel => exact ⟨_, (t259), (by first | rfl | (simp; done) | (simp [*]; done)), H', ⟨by first | omega | exact Nat.le_refl _⟩, ⟨by (with_reducible repeat (first | apply Kd.R_alloc | apply Kd.R_drewN | apply Kd.R_drew)); exact Kd.R_mono HO234.out (fun _ hk => hk.1.2)⟩, ⟨by (with_reducible repeat (first | apply Kd.R_alloc | apply Kd.R_drewN | apply Kd.R_drew)); exact Kd.R_mono HO237.out (fun _ hk => hk.1.2)⟩, ⟨by (with_reducible repeat (first | apply Kd.V_alloc | apply Kd.V_drewN | apply Kd.V_drew)); exact Kd.V_mono HO243.out (fun _ hk => ⟨hk.1.1, ⟨hk.1.2.1, hk.2⟩⟩)⟩, ⟨by (with_reducible repeat (first | refine blk_drewN ?_ _ | refine blk_drew ?_ | refine blk_alloc ?_ _)); exact BK256.out⟩, ⟨by repeat (first | (with_reducible first | exact HB.out | apply below_alloc | apply pw_below_drewN | apply below_drew1 | refine below_set ?_ GE256.out) | exact HB.out)⟩⟩
            ·replace c37 := Bool.eq_false_iff.mpr c37
             subst c37
             have H1 : (garmentlaw11_awake.j0 k y232 y235 t241 true t251 t252 t253 t254) = some r := by rw [if_neg (show ¬ (false = true) by decide)] at H; exact H
             clear H
             have H := H1
             clear H1
             have H' := Aside0.mk H
             clear H
             go_wp2
             go_meet
             case rel => exact ⟨_, (true), (by first | rfl | (simp; done) | (simp [*]; done)), H', ⟨by first | omega | exact Nat.le_refl _⟩, ⟨by (with_reducible repeat (first | apply Kd.R_alloc | apply Kd.R_drewN | apply Kd.R_drew)); exact Kd.R_mono HO234.out (fun _ hk => hk.1.2)⟩, ⟨by (with_reducible repeat (first | apply Kd.R_alloc | apply Kd.R_drewN | apply Kd.R_drew)); exact Kd.R_mono HO237.out (fun _ hk => hk.1.2)⟩, ⟨by (with_reducible repeat (first | apply Kd.V_alloc | apply Kd.V_drewN | apply Kd.V_drew)); exact Kd.V_mono HO243.out (fun _ hk => ⟨hk.1.1, ⟨hk.1.2.1, hk.2⟩⟩)⟩, ⟨by (with_reducible repeat (first | refine blk_drewN ?_ _ | refine blk_drew ?_ | refine blk_alloc ?_ _)); exact BK256.out⟩, ⟨by repeat (first | (with_reducible first | exact HB.out | apply below_alloc | apply pw_below_drewN | apply below_drew1 | refine below_set ?_ GE256.out) | exact HB.out)⟩⟩
           ·rw [if_neg c36] at H
            have c36b0 : (t249 == (-1)) = false := beq_eq_false_iff_ne.mpr c36
            have c36b1 : (t249 != (-1)) = true := bne_iff_ne.mpr c36
            have H' := Aside0.mk H
            clear H
            go_wp2
            go_meet
            case rel => exact ⟨_, (true), (by first | rfl | (simp; done) | (simp [*]; done)), H', ⟨by first | omega | exact Nat.le_refl _⟩, ⟨by (with_reducible repeat (first | apply Kd.R_alloc | apply Kd.R_drewN | apply Kd.R_drew)); exact Kd.R_mono HO234.out (fun _ hk => hk.1.2)⟩, ⟨by (with_reducible repeat (first | apply Kd.R_alloc | apply Kd.R_drewN | apply Kd.R_drew)); exact Kd.R_mono HO237.out (fun _ hk => hk.1.2)⟩, ⟨by (with_reducible repeat (first | apply Kd.V_alloc | apply Kd.V_drewN | apply Kd.V_drew)); exact Kd.V_mono HO243.out (fun _ hk => ⟨hk.1.1, ⟨hk.1.2.1, hk.2⟩⟩)⟩, ⟨by (with_reducible repeat (first | refine blk_drewN ?_ _ | refine blk_drew ?_ | refine blk_alloc ?_ _)); exact BK256.out⟩, ⟨by repeat (first | (with_reducible first | exact HB.out | apply below_alloc | apply pw_below_drewN | apply below_drew1 | refine below_set ?_ GE256.out) | exact HB.out)⟩⟩
          ·rw [if_neg c35] at H
           have c35b0 : (t247 == 0) = false := beq_eq_false_iff_ne.mpr c35
           have c35b1 : (t247 != 0) = true := bne_iff_ne.mpr c35
           have H' := Aside0.mk H
           clear H
           go_wp2
           go_meet
           case rel => exact ⟨_, (true), (by first | rfl | (simp; done) | (simp [*]; done)), H', ⟨by first | omega | exact Nat.le_refl _⟩, ⟨by (with_reducible repeat (first | apply Kd.R_alloc | apply Kd.R_drewN | apply Kd.R_drew)); exact Kd.R_mono HO234.out (fun _ hk => hk.1.2)⟩, ⟨by (with_reducible repeat (first | apply Kd.R_alloc | apply Kd.R_drewN | apply Kd.R_drew)); exact Kd.R_mono HO237.out (fun _ hk => hk.1.2)⟩, ⟨by (with_reducible repeat (first | apply Kd.V_alloc | apply Kd.V_drewN | apply Kd.V_drew)); exact Kd.V_mono HO243.out (fun _ hk => ⟨hk.1.1, ⟨hk.1.2.1, hk.2⟩⟩)⟩, ⟨by (with_reducible repeat (first | refine blk_drewN ?_ _ | refine blk_drew ?_ | refine blk_alloc ?_ _)); exact BK256.out⟩, ⟨by repeat (first | (with_reducible first | exact HB.out | apply below_alloc | apply pw_below_drewN | apply below_drew1 | refine below_set ?_ GE256.out) | exact HB.out)⟩⟩
         ·rw [if_neg c34] at H
          have c34b0 : (t245 == 1) = false := beq_eq_false_iff_ne.mpr c34
          have c34b1 : (t245 != 1) = true := bne_iff_ne.mpr c34
          have H' := Aside0.mk H
          clear H
          go_wp2
          go_meet
          case rel => exact ⟨_, (true), (by first | rfl | (simp; done) | (simp [*]; done)), H', ⟨by first | omega | exact Nat.le_refl _⟩, ⟨by (with_reducible repeat (first | apply Kd.R_alloc | apply Kd.R_drewN | apply Kd.R_drew)); exact Kd.R_mono HO234.out (fun _ hk => hk.1.2)⟩, ⟨by (with_reducible repeat (first | apply Kd.R_alloc | apply Kd.R_drewN | apply Kd.R_drew)); exact Kd.R_mono HO237.out (fun _ hk => hk.1.2)⟩, ⟨by (with_reducible repeat (first | apply Kd.V_alloc | apply Kd.V_drewN | apply Kd.V_drew)); exact Kd.V_mono HO243.out (fun _ hk => ⟨hk.1.1, ⟨hk.1.2.1, hk.2⟩⟩)⟩, ⟨by (with_reducible repeat (first | refine blk_drewN ?_ _ | refine blk_drew ?_ | refine blk_alloc ?_ _)); exact BK256.out⟩, ⟨by repeat (first | (with_reducible first | exact HB.out | apply below_alloc | apply pw_below_drewN | apply below_drew1 | refine below_set ?_ GE256.out) | exact HB.out)⟩⟩
        ·rw [if_neg c33] at H
         have c33b0 : (t260 == 0) = false := beq_eq_false_iff_ne.mpr c33
         have c33b1 : (t260 != 0) = true := bne_iff_ne.mpr c33
         have H' := Aside0.mk H
         clear H
         go_wp2
         go_meet
         case rel => exact ⟨_, (true), (by first | rfl | (simp; done) | (simp [*]; done)), H', ⟨by first | omega | exact Nat.le_refl _⟩, ⟨by (with_reducible repeat (first | apply Kd.R_alloc | apply Kd.R_drewN | apply Kd.R_drew)); exact Kd.R_mono HO234.out (fun _ hk => hk.1.2)⟩, ⟨by (with_reducible repeat (first | apply Kd.R_alloc | apply Kd.R_drewN | apply Kd.R_drew)); exact Kd.R_mono HO237.out (fun _ hk => hk.1.2)⟩, ⟨by (with_reducible repeat (first | apply Kd.V_alloc | apply Kd.V_drewN | apply Kd.V_drew)); exact Kd.V_mono HO243.out (fun _ hk => ⟨hk.1.1, ⟨hk.1.2.1, hk.2⟩⟩)⟩, ⟨by (with_reducible repeat (first | refine blk_drewN ?_ _ | refine blk_drew ?_ | refine blk_alloc ?_ _)); exact BK256.out⟩, ⟨by repeat (first | (with_reducible first | exact HB.out | apply below_alloc | apply pw_below_drewN | apply below_drew1 | refine below_set ?_ GE256.out) | exact HB.out)⟩⟩
       ·rw [if_neg c32] at H
        have c32b0 : (t258 == 0) = false := beq_eq_false_iff_ne.mpr c32
        have c32b1 : (t258 != 0) = true := bne_iff_ne.mpr c32
        have H' := Aside0.mk H
        clear H
        go_wp2
        go_meet
        case rel => exact ⟨_, (true), (by first | rfl | (simp; done) | (simp [*]; done)), H', ⟨by first | omega | exact Nat.le_refl _⟩, ⟨by (with_reducible repeat (first | apply Kd.R_alloc | apply Kd.R_drewN | apply Kd.R_drew)); exact Kd.R_mono HO234.out (fun _ hk => hk.1.2)⟩, ⟨by (with_reducible repeat (first | apply Kd.R_alloc | apply Kd.R_drewN | apply Kd.R_drew)); exact Kd.R_mono HO237.out (fun _ hk => hk.1.2)⟩, ⟨by (with_reducible repeat (first | apply Kd.V_alloc | apply Kd.V_drewN | apply Kd.V_drew)); exact Kd.V_mono HO243.out (fun _ hk => ⟨hk.1.1, ⟨hk.1.2.1, hk.2⟩⟩)⟩, ⟨by (with_reducible repeat (first | refine blk_drewN ?_ _ | refine blk_drew ?_ | refine blk_alloc ?_ _)); exact BK256.out⟩, ⟨by repeat (first | (with_reducible first | exact HB.out | apply below_alloc | apply pw_below_drewN | apply below_drew1 | refine below_set ?_ GE256.out) | exact HB.out)⟩⟩
      ·rw [if_neg c31] at H
       have c31b0 : (t255 == 0) = false := beq_eq_false_iff_ne.mpr c31
       have c31b1 : (t255 != 0) = true := bne_iff_ne.mpr c31
       have H' := Aside0.mk H
       clear H
       go_wp2
       go_meet
       case rel => exact ⟨_, (true), (by first | rfl | (simp; done) | (simp [*]; done)), H', ⟨by first | omega | exact Nat.le_refl _⟩, ⟨by (with_reducible repeat (first | apply Kd.R_alloc | apply Kd.R_drewN | apply Kd.R_drew)); exact Kd.R_mono HO234.out (fun _ hk => hk.1.2)⟩, ⟨by (with_reducible repeat (first | apply Kd.R_alloc | apply Kd.R_drewN | apply Kd.R_drew)); exact Kd.R_mono HO237.out (fun _ hk => hk.1.2)⟩, ⟨by (with_reducible repeat (first | apply Kd.V_alloc | apply Kd.V_drewN | apply Kd.V_drew)); exact Kd.V_mono HO243.out (fun _ hk => ⟨hk.1.1, ⟨hk.1.2.1, hk.2⟩⟩)⟩, ⟨by (with_reducible repeat (first | refine blk_drewN ?_ _ | refine blk_drew ?_ | refine blk_alloc ?_ _)); exact BK256.out⟩, ⟨by repeat (first | (with_reducible first | exact HB.out | apply below_alloc | apply pw_below_drewN | apply below_drew1 | refine below_set ?_ GE256.out) | exact HB.out)⟩⟩
     ·rw [if_neg c30] at H
      have c30b0 : (t250 == 0) = false := beq_eq_false_iff_ne.mpr c30
      have c30b1 : (t250 != 0) = true := bne_iff_ne.mpr c30
      have H' := Aside0.mk H
      clear H
      go_wp2
      go_meet
      case rel => exact ⟨_, (true), (by first | rfl | (simp; done) | (simp [*]; done)), H', ⟨by first | omega | exact Nat.le_refl _⟩, ⟨by (with_reducible repeat (first | apply Kd.R_alloc | apply Kd.R_drewN | apply Kd.R_drew)); exact Kd.R_mono HO234.out (fun _ hk => hk.1.2)⟩, ⟨by (with_reducible repeat (first | apply Kd.R_alloc | apply Kd.R_drewN | apply Kd.R_drew)); exact Kd.R_mono HO237.out (fun _ hk => hk.1.2)⟩, ⟨by (with_reducible repeat (first | apply Kd.V_alloc | apply Kd.V_drewN | apply Kd.V_drew)); exact Kd.V_mono HO243.out (fun _ hk => ⟨hk.1.1, ⟨hk.1.2.1, hk.2⟩⟩)⟩, ⟨by (with_reducible repeat (first | refine blk_drewN ?_ _ | refine blk_drew ?_ | refine blk_alloc ?_ _)); exact BK256.out⟩, ⟨by repeat (first | (with_reducible first | exact HB.out | apply below_alloc | apply pw_below_drewN | apply below_drew1 | refine below_set ?_ GE256.out) | exact HB.out)⟩⟩
    ·rw [if_neg c29] at H
     have c29b0 : (t248 == 0) = false := beq_eq_false_iff_ne.mpr c29
     have c29b1 : (t248 != 0) = true := bne_iff_ne.mpr c29
     have H' := Aside0.mk H
     clear H
     go_wp2
     go_meet
     case rel => exact ⟨_, (true), (by first | rfl | (simp; done) | (simp [*]; done)), H', ⟨by first | omega | exact Nat.le_refl _⟩, ⟨by (with_reducible repeat (first | apply Kd.R_alloc | apply Kd.R_drewN | apply Kd.R_drew)); exact Kd.R_mono HO234.out (fun _ hk => hk.1.2)⟩, ⟨by (with_reducible repeat (first | apply Kd.R_alloc | apply Kd.R_drewN | apply Kd.R_drew)); exact Kd.R_mono HO237.out (fun _ hk => hk.1.2)⟩, ⟨by (with_reducible repeat (first | apply Kd.V_alloc | apply Kd.V_drewN | apply Kd.V_drew)); exact Kd.V_mono HO243.out (fun _ hk => ⟨hk.1.1, ⟨hk.1.2.1, hk.2⟩⟩)⟩, ⟨by (with_reducible repeat (first | refine blk_drewN ?_ _ | refine blk_drew ?_ | refine blk_alloc ?_ _)); exact BK256.out⟩, ⟨by repeat (first | (with_reducible first | exact HB.out | apply below_alloc | apply pw_below_drewN | apply below_drew1 | refine below_set ?_ GE256.out) | exact HB.out)⟩⟩
   ·rw [if_neg c28] at H
    have c28b0 : (t246 == 0) = false := beq_eq_false_iff_ne.mpr c28
    have c28b1 : (t246 != 0) = true := bne_iff_ne.mpr c28
    have H' := Aside0.mk H
    clear H
    go_wp2
    go_meet
    case rel => exact ⟨_, (true), (by first | rfl | (simp; done) | (simp [*]; done)), H', ⟨by first | omega | exact Nat.le_refl _⟩, ⟨by (with_reducible repeat (first | apply Kd.R_alloc | apply Kd.R_drewN | apply Kd.R_drew)); exact Kd.R_mono HO234.out (fun _ hk => hk.1.2)⟩, ⟨by (with_reducible repeat (first | apply Kd.R_alloc | apply Kd.R_drewN | apply Kd.R_drew)); exact Kd.R_mono HO237.out (fun _ hk => hk.1.2)⟩, ⟨by (with_reducible repeat (first | apply Kd.V_alloc | apply Kd.V_drewN | apply Kd.V_drew)); exact Kd.V_mono HO243.out (fun _ hk => ⟨hk.1.1, ⟨hk.1.2.1, hk.2⟩⟩)⟩, ⟨by (with_reducible repeat (first | refine blk_drewN ?_ _ | refine blk_drew ?_ | refine blk_alloc ?_ _)); exact BK256.out⟩, ⟨by repeat (first | (with_reducible first | exact HB.out | apply below_alloc | apply pw_below_drewN | apply below_drew1 | refine below_set ?_ GE256.out) | exact HB.out)⟩⟩
  ·rw [if_neg c27] at H
   have c27b0 : (t244 == 0) = false := beq_eq_false_iff_ne.mpr c27
   have c27b1 : (t244 != 0) = true := bne_iff_ne.mpr c27
   (first | rw [c27b0] | (simp only [i64_w, i32_w]; rw [c27b0]) | skip)
   have H' := Aside0.mk H
   clear H
   go_wp2
   go_meet
   case rel => exact ⟨_, (true), (by first | rfl | (simp; done) | (simp [*]; done)), H', ⟨by first | omega | exact Nat.le_refl _⟩, ⟨by (with_reducible repeat (first | apply Kd.R_alloc | apply Kd.R_drewN | apply Kd.R_drew)); exact Kd.R_mono HO234.out (fun _ hk => hk.1.2)⟩, ⟨by (with_reducible repeat (first | apply Kd.R_alloc | apply Kd.R_drewN | apply Kd.R_drew)); exact Kd.R_mono HO237.out (fun _ hk => hk.1.2)⟩, ⟨by (with_reducible repeat (first | apply Kd.V_alloc | apply Kd.V_drewN | apply Kd.V_drew)); exact Kd.V_mono HO243.out (fun _ hk => ⟨hk.1.1, ⟨hk.1.2.1, hk.2⟩⟩)⟩, ⟨by (with_reducible repeat (first | refine blk_drewN ?_ _ | refine blk_drew ?_ | refine blk_alloc ?_ _)); exact BK256.out⟩, ⟨by repeat (first | (with_reducible first | exact HB.out | apply below_alloc | apply pw_below_drewN | apply below_drew1 | refine below_set ?_ GE256.out) | exact HB.out)⟩⟩
 case rest =>
  clear HC8
  try clear c1
  try clear c2
  try clear p2
  try clear c3
  try clear c13
  try clear c14
  try clear c17
  try clear c24
  try clear c26
  try clear c27
  try clear c27b0
  try clear c27b1
  try clear c28
  try clear c28b0
  try clear c28b1
  try clear c29
  try clear c29b0
  try clear c29b1
  try clear c30
  try clear c30b0
  try clear c30b1
  try clear c31
  try clear c31b0
  try clear c31b1
  try clear c32
  try clear c32b0
  try clear c32b1
  try clear c33
  try clear c33b0
  try clear c33b1
  try clear c34
  try clear c34b0
  try clear c34b1
  try clear c35
  try clear c35b0
  try clear c35b1
  try clear c36
  try clear c36b0
  try clear c36b1
  try clear c37
  try clear hcz24_0
  try clear hcz24_1
  try clear hcz24_2
  try clear hcz24_3
  try clear hfz24_0
  try clear hfz24_1
  try clear hfz24_2
  try clear hfz24_3
  obtain ⟨kq, x119_7, rfl, HA, HJ7, HO_1, HO_2, HO_4, BK256, HB⟩ := hcut
  cases kq with
  | zero => exact absurd HA.out (by simp [garmentlaw11_awake.j0])
  | succ kj7 =>
   have H := HA.out
   clear HA
   simp only [garmentlaw11_awake.j0] at H
   by_cases c38 : x119_7 = true
   ·subst c38
    have H1 : (none) = some r := by rw [if_pos rfl] at H; exact H
    clear H
    have H := H1
    clear H1
    exact absurd H (by simp)
   ·replace c38 := Bool.eq_false_iff.mpr c38
    subst c38
    have H1 : ((some (([(⟨0, 0⟩ : S30), (⟨4, 4⟩ : S30), (⟨4, 0⟩ : S30), (⟨0, 4⟩ : S30)] : List (S30)) : List (S30))).bind fun y261 => ((garmentref11_Same.f kj7 t241 y232).bind fun t264 => (if t264 = true then (if (t251 == 0 && (t252 == 0 && (t253 == 4 && (t254 == 4)))) = true then ((polygon_Area2.f kj7 y232).bind fun t265 => (if t265 = 32 then ((polygon_Area2.f kj7 y235).bind fun t266 => (if t266 = (-32) then ((polygon_Area2.f kj7 y261).bind fun t267 => (if t267 = 0 then ((polygon_Check.f kj7 y261).bind fun t268 => (if t268 = 11 then (if 2 ≤ (y232.length : Int) then ((polygon_Check.f kj7 (y232.take 2)).bind fun t273 => (some (t273 == 11))) else (none)) else (none))) else (none))) else (none))) else (none))) else (none)) else (none)))) = some r := by rw [if_neg (show ¬ (false = true) by decide)] at H; exact H
    clear H
    have H := H1
    clear H1
    obtain ⟨y261, hy261⟩ : ∃ y_ : List (S30), y_ = (([(⟨0, 0⟩ : S30), (⟨4, 4⟩ : S30), (⟨4, 0⟩ : S30), (⟨0, 4⟩ : S30)] : List (S30))) := ⟨_, rfl⟩
    replace H : ((garmentref11_Same.f kj7 t241 y232).bind fun t264 => (if t264 = true then (if (t251 == 0 && (t252 == 0 && (t253 == 4 && (t254 == 4)))) = true then ((polygon_Area2.f kj7 y232).bind fun t265 => (if t265 = 32 then ((polygon_Area2.f kj7 y235).bind fun t266 => (if t266 = (-32) then ((polygon_Area2.f kj7 y261).bind fun t267 => (if t267 = 0 then ((polygon_Check.f kj7 y261).bind fun t268 => (if t268 = 11 then (if 2 ≤ (y232.length : Int) then ((polygon_Check.f kj7 (y232.take 2)).bind fun t273 => (some (t273 == 11))) else (none)) else (none))) else (none))) else (none))) else (none))) else (none)) else (none))) = some r := by first | (rw [hy261]; with_reducible exact H) | (have H2_ := (Option.bind_some _ _).symm.trans H; rw [hy261]; with_reducible exact H2_) | (have H2_ := (Option.bind_some _ _).symm.trans H; with_reducible exact H2_) | with_reducible exact H | (rw [hy261]; exact H) | exact H
    have Ny261 := Aside0.mk hy261
    clear hy261
    replace H := Option.bind_eq_some_iff.mp H
    obtain ⟨t264, A390, H⟩ := H
    replace H : (if t264 = true then (if (t251 == 0 && (t252 == 0 && (t253 == 4 && (t254 == 4)))) = true then ((polygon_Area2.f kj7 y232).bind fun t265 => (if t265 = 32 then ((polygon_Area2.f kj7 y235).bind fun t266 => (if t266 = (-32) then ((polygon_Area2.f kj7 y261).bind fun t267 => (if t267 = 0 then ((polygon_Check.f kj7 y261).bind fun t268 => (if t268 = 11 then (if 2 ≤ (y232.length : Int) then ((polygon_Check.f kj7 (y232.take 2)).bind fun t273 => (some (t273 == 11))) else (none)) else (none))) else (none))) else (none))) else (none))) else (none)) else (none)) = some r := H
    have A39 := Aside0.mk A390
    clear A390
    by_cases c40 : t264 = true
    ·subst c40
     have H1 : (if (t251 == 0 && (t252 == 0 && (t253 == 4 && (t254 == 4)))) = true then ((polygon_Area2.f kj7 y232).bind fun t265 => (if t265 = 32 then ((polygon_Area2.f kj7 y235).bind fun t266 => (if t266 = (-32) then ((polygon_Area2.f kj7 y261).bind fun t267 => (if t267 = 0 then ((polygon_Check.f kj7 y261).bind fun t268 => (if t268 = 11 then (if 2 ≤ (y232.length : Int) then ((polygon_Check.f kj7 (y232.take 2)).bind fun t273 => (some (t273 == 11))) else (none)) else (none))) else (none))) else (none))) else (none))) else (none)) = some r := by rw [if_pos rfl] at H; exact H
     clear H
     have H := H1
     clear H1
     by_cases c41 : (t251 == 0 && (t252 == 0 && (t253 == 4 && (t254 == 4)))) = true
     ·rw [if_pos c41] at H
      have c41b0 : (t251 == 0 && (t252 == 0 && (t253 == 4 && (t254 == 4)))) = true := c41
      (try (have c41b1 : decide (t251 = 0 && (t252 == 0 && (t253 == 4 && (t254 == 4)))) = true := by simpa using c41))
      (try (have c41b2 : (t251 == 0 && (t252 == 0 && (t253 == 4 && (t254 == 4)))) = true := by simpa using c41))
      clear c41
      replace H := Option.bind_eq_some_iff.mp H
      obtain ⟨t265, A420, H⟩ := H
      replace H : (if t265 = 32 then ((polygon_Area2.f kj7 y235).bind fun t266 => (if t266 = (-32) then ((polygon_Area2.f kj7 y261).bind fun t267 => (if t267 = 0 then ((polygon_Check.f kj7 y261).bind fun t268 => (if t268 = 11 then (if 2 ≤ (y232.length : Int) then ((polygon_Check.f kj7 (y232.take 2)).bind fun t273 => (some (t273 == 11))) else (none)) else (none))) else (none))) else (none))) else (none)) = some r := H
      have A42 := Aside0.mk A420
      clear A420
      by_cases c43 : t265 = 32
      ·rw [if_pos c43] at H
       have c43b0 : (t265 == 32) = true := beq_iff_eq.mpr c43
       have c43b1 : (t265 != 32) = false := bne_eq_false_iff_eq.mpr c43
       clear c43
       replace H := Option.bind_eq_some_iff.mp H
       obtain ⟨t266, A440, H⟩ := H
       replace H : (if t266 = (-32) then ((polygon_Area2.f kj7 y261).bind fun t267 => (if t267 = 0 then ((polygon_Check.f kj7 y261).bind fun t268 => (if t268 = 11 then (if 2 ≤ (y232.length : Int) then ((polygon_Check.f kj7 (y232.take 2)).bind fun t273 => (some (t273 == 11))) else (none)) else (none))) else (none))) else (none)) = some r := H
       have A44 := Aside0.mk A440
       clear A440
       by_cases c45 : t266 = (-32)
       ·rw [if_pos c45] at H
        have c45b0 : (t266 == (-32)) = true := beq_iff_eq.mpr c45
        have c45b1 : (t266 != (-32)) = false := bne_eq_false_iff_eq.mpr c45
        clear c45
        replace H := Option.bind_eq_some_iff.mp H
        obtain ⟨t267, A460, H⟩ := H
        replace H : (if t267 = 0 then ((polygon_Check.f kj7 y261).bind fun t268 => (if t268 = 11 then (if 2 ≤ (y232.length : Int) then ((polygon_Check.f kj7 (y232.take 2)).bind fun t273 => (some (t273 == 11))) else (none)) else (none))) else (none)) = some r := H
        have A46 := Aside0.mk A460
        clear A460
        by_cases c47 : t267 = 0
        ·rw [if_pos c47] at H
         have c47b0 : (t267 == 0) = true := beq_iff_eq.mpr c47
         have c47b1 : (t267 != 0) = false := bne_eq_false_iff_eq.mpr c47
         clear c47
         replace H := Option.bind_eq_some_iff.mp H
         obtain ⟨t268, A480, H⟩ := H
         replace H : (if t268 = 11 then (if 2 ≤ (y232.length : Int) then ((polygon_Check.f kj7 (y232.take 2)).bind fun t273 => (some (t273 == 11))) else (none)) else (none)) = some r := H
         have A48 := Aside0.mk A480
         clear A480
         by_cases c49 : t268 = 11
         ·rw [if_pos c49] at H
          have c49b0 : (t268 == 11) = true := beq_iff_eq.mpr c49
          have c49b1 : (t268 != 11) = false := bne_eq_false_iff_eq.mpr c49
          clear c49
          by_cases c50 : 2 ≤ (y232.length : Int)
          ·rw [if_pos c50] at H
           have c50b0 := eq_true c50
           have c50b1 : decide (2 ≤ (y232.length : Int)) = true := decide_eq_true c50
           clear c50
           obtain ⟨y269, hy269⟩ : ∃ y_ : List (S30), y_ = (y232.take 2) := ⟨_, rfl⟩
           replace H : ((polygon_Check.f kj7 y269).bind fun t273 => (some (t273 == 11))) = some r := by first | (rw [hy269]; with_reducible exact H) | (have H2_ := (Option.bind_some _ _).symm.trans H; rw [hy269]; with_reducible exact H2_) | (have H2_ := (Option.bind_some _ _).symm.trans H; with_reducible exact H2_) | with_reducible exact H | (rw [hy269]; exact H) | exact H
           have Ny269 := Aside0.mk hy269
           clear hy269
           replace H := Option.bind_eq_some_iff.mp H
           obtain ⟨t273, A510, H⟩ := H
           replace H : (some (t273 == 11)) = some r := H
           have A51 := Aside0.mk A510
           clear A510
           obtain rfl := Option.some.inj H
           go_wp2_with (first | ((with_reducible refine gate_dst (N := 124) rfl ?_); refine Kd.R_lit k30 _ 30 ?hg (N := 124) ?hd (xs := ([(⟨0, 0⟩ : S30), (⟨4, 4⟩ : S30), (⟨4, 0⟩ : S30), (⟨0, 4⟩ : S30)] : List (S30))) (inner := [.int .i64 0, .int .i64 0, .int .i64 4, .int .i64 4, .int .i64 4, .int .i64 0, .int .i64 0, .int .i64 4]) (ok := fun _ => True) (okp := fun _ => True) ?hr ?hp (fun _ hk => hk) trivial (Below.refl _ _) (Nat.le_refl _) (by simp) ?_; (case hd => rfl); (case hg => rfl); (case hr => first | (go_simp; done) | (go_simp; rfl)); (case hp => exact (Reps.c2 (show Kd.M k30 _ _ _ (⟨0, 0⟩ : S30) [.int .i64 0, .int .i64 0] from (k30_mkM _ _ _ (⟨0, 0⟩ : S30) )) (Reps.c2 (show Kd.M k30 _ _ _ (⟨4, 4⟩ : S30) [.int .i64 4, .int .i64 4] from (k30_mkM _ _ _ (⟨4, 4⟩ : S30) )) (Reps.c2 (show Kd.M k30 _ _ _ (⟨4, 0⟩ : S30) [.int .i64 4, .int .i64 0] from (k30_mkM _ _ _ (⟨4, 0⟩ : S30) )) (Reps.c2 (show Kd.M k30 _ _ _ (⟨0, 4⟩ : S30) [.int .i64 0, .int .i64 4] from (k30_mkM _ _ _ (⟨0, 4⟩ : S30) )) (Reps.none _ _)))))); intro v262 w52 ho53 hb hg_ hnew_; clear hg_ hnew_; (first | rw [← Ny261.out] at ho53 | (simp only [Int.reduceToNat] at ho53; rw [← Ny261.out] at ho53)); have n0_ := Aside0.mk (Kd.R_elder' (by (with_reducible repeat (first | apply Kd.R_alloc | apply Kd.R_drewN | apply Kd.R_drew)); exact HO_1.out) (Kd.R_base ho53) hb); have n1_ := Aside0.mk (Kd.R_elder' (by (with_reducible repeat (first | apply Kd.R_alloc | apply Kd.R_drewN | apply Kd.R_drew)); exact HO_2.out) (Kd.R_base ho53) hb); have n2_ := Aside0.mk (Kd.V_elder' (by (with_reducible repeat (first | apply Kd.V_alloc | apply Kd.V_drewN | apply Kd.V_drew)); exact HO_4.out) (Kd.R_base ho53) hb); have n3_ := Aside0.mk (Kd.R_lower (Kd.R_new' (Kd.R_new' ho53 (Kd.R_lt (by (with_reducible repeat (first | apply Kd.R_alloc | apply Kd.R_drewN | apply Kd.R_drew)); exact HO_1.out))) (Kd.R_lt (by (with_reducible repeat (first | apply Kd.R_alloc | apply Kd.R_drewN | apply Kd.R_drew)); exact HO_2.out))) (below_size (by repeat (first | exact HB.out | apply below_alloc | apply pw_below_drewN | apply below_drew1 | refine below_set ?_ GE256.out)))); have n4_ := Aside0.mk (blk_below (g := gb256) (o := .cells #[.int .i64 t251, .int .i64 t252, .int .i64 t253, .int .i64 t254] 41 (0, 0)) (by (with_reducible repeat (first | refine blk_drewN ?_ _ | refine blk_drew ?_ | refine blk_alloc ?_ _)); exact BK256.out) hb); have n5_ := Aside0.mk (below_step (by repeat (first | exact HB.out | apply below_alloc | apply pw_below_drewN | apply below_drew1 | refine below_set ?_ GE256.out)) hb); clear HO_1; clear HO_2; clear HO_4; clear BK256; clear HB; have HO_1 := n0_; have HO_2 := n1_; have HO_4 := n2_; have HO263 := n3_; have BK256 := n4_; have HB := n5_; clear n0_ n1_ n2_ n3_ n4_ n5_; clear hb ho53; obtain ⟨Ao54, co54, eo54⟩ := Kd.V_slice HO_4.out; subst eo54) | ((with_reducible refine gate_callee (f := 16) rfl ?_); refine goesL_ (some 127) rfl rfl Try.func16 (by kernel_rfl) rfl #[.slice Ao54 t241.length co54, .slice Ao17 y232.length co17] rfl (by (try simp only [List.map_toArray, List.map_cons, List.map_nil]); first | done | rfl | (simp only [List.length_drop, List.length_take]; rfl)) ?_; (with_reducible refine (garmentref11_Same.calls kj7 _ _ t241 _ _ y232 true _ ?side1 ?side2 ?side3 ?side4 A39.out).mono ?_); (case side1 => repeat (first | exact (Kd.V_reads' HO_4.out).2.2 | (with_reducible refine Kd.C_alloc ?_ _) | (with_reducible refine Kd.C_drewN ?_ _) | (with_reducible refine Kd.C_drew ?_))); (case side2 => exact (Kd.V_reads' HO_4.out).2.1); (case side3 => repeat (first | exact (Kd.R_reads' HO_1.out).2.2 | (with_reducible refine Kd.C_alloc ?_ _) | (with_reducible refine Kd.C_drewN ?_ _) | (with_reducible refine Kd.C_drew ?_))); (case side4 => exact (Kd.R_reads' HO_1.out).2.1); rintro e w' ⟨rfl, ⟨nd, rfl⟩⟩; refine ⟨_, rfl, ?_⟩; have hcz55_0 : w52.cell? ⟨gb256, 0, none⟩ = some (.int .i64 t251) := (blk_cell BK256.out 0).trans rfl; have hcz55_1 : w52.cell? ⟨gb256, 1, none⟩ = some (.int .i64 t252) := (blk_cell BK256.out 1).trans rfl; have hcz55_2 : w52.cell? ⟨gb256, 2, none⟩ = some (.int .i64 t253) := (blk_cell BK256.out 2).trans rfl; have hcz55_3 : w52.cell? ⟨gb256, 3, none⟩ = some (.int .i64 t254) := (blk_cell BK256.out 3).trans rfl; have hfz55_0 := blk_frozen BK256.out 0; have hfz55_1 := blk_frozen BK256.out 1; have hfz55_2 := blk_frozen BK256.out 2; have hfz55_3 := blk_frozen BK256.out 3) | (go_at_call 21; (with_reducible refine (polygon_Area2.calls kj7 _ _ y232 t265 _ ?side1 ?side2 A42.out).mono ?_); (case side1 => repeat (first | exact (Kd.R_reads' HO_1.out).2.2 | (with_reducible refine Kd.C_alloc ?_ _) | (with_reducible refine Kd.C_drewN ?_ _) | (with_reducible refine Kd.C_drew ?_))); (case side2 => exact (Kd.R_reads' HO_1.out).2.1); rintro e w56 ⟨rfl, hb⟩; have n0_ := Aside0.mk (Kd.R_below (by (with_reducible repeat (first | apply Kd.R_alloc | apply Kd.R_drewN | apply Kd.R_drew)); exact HO_1.out) hb); have n1_ := Aside0.mk (Kd.R_below (by (with_reducible repeat (first | apply Kd.R_alloc | apply Kd.R_drewN | apply Kd.R_drew)); exact HO_2.out) hb); have n2_ := Aside0.mk (Kd.V_below (by (with_reducible repeat (first | apply Kd.V_alloc | apply Kd.V_drewN | apply Kd.V_drew)); exact HO_4.out) hb); have n3_ := Aside0.mk (Kd.R_below (by (with_reducible repeat (first | apply Kd.R_alloc | apply Kd.R_drewN | apply Kd.R_drew)); exact HO263.out) hb); have n4_ := Aside0.mk (blk_below (g := gb256) (o := .cells #[.int .i64 t251, .int .i64 t252, .int .i64 t253, .int .i64 t254] 41 (0, 0)) (by (with_reducible repeat (first | refine blk_drewN ?_ _ | refine blk_drew ?_ | refine blk_alloc ?_ _)); exact BK256.out) hb); have n5_ := Aside0.mk (below_step (by repeat (first | exact HB.out | apply below_alloc | apply pw_below_drewN | apply below_drew1 | refine below_set ?_ GE256.out)) hb); clear HO_1; clear HO_2; clear HO_4; clear HO263; clear BK256; clear HB; have HO_1 := n0_; have HO_2 := n1_; have HO_4 := n2_; have HO263 := n3_; have BK256 := n4_; have HB := n5_; clear n0_ n1_ n2_ n3_ n4_ n5_; (try clear hb); (try clear hb2); (try clear hk); (try clear hi)) | (go_at_call 21; (with_reducible refine (polygon_Area2.calls kj7 _ _ y235 t266 _ ?side1 ?side2 A44.out).mono ?_); (case side1 => repeat (first | exact (Kd.R_reads' HO_2.out).2.2 | (with_reducible refine Kd.C_alloc ?_ _) | (with_reducible refine Kd.C_drewN ?_ _) | (with_reducible refine Kd.C_drew ?_))); (case side2 => exact (Kd.R_reads' HO_2.out).2.1); rintro e w57 ⟨rfl, hb⟩; have n0_ := Aside0.mk (Kd.R_below (by (with_reducible repeat (first | apply Kd.R_alloc | apply Kd.R_drewN | apply Kd.R_drew)); exact HO_1.out) hb); have n1_ := Aside0.mk (Kd.R_below (by (with_reducible repeat (first | apply Kd.R_alloc | apply Kd.R_drewN | apply Kd.R_drew)); exact HO_2.out) hb); have n2_ := Aside0.mk (Kd.V_below (by (with_reducible repeat (first | apply Kd.V_alloc | apply Kd.V_drewN | apply Kd.V_drew)); exact HO_4.out) hb); have n3_ := Aside0.mk (Kd.R_below (by (with_reducible repeat (first | apply Kd.R_alloc | apply Kd.R_drewN | apply Kd.R_drew)); exact HO263.out) hb); have n4_ := Aside0.mk (blk_below (g := gb256) (o := .cells #[.int .i64 t251, .int .i64 t252, .int .i64 t253, .int .i64 t254] 41 (0, 0)) (by (with_reducible repeat (first | refine blk_drewN ?_ _ | refine blk_drew ?_ | refine blk_alloc ?_ _)); exact BK256.out) hb); have n5_ := Aside0.mk (below_step (by repeat (first | exact HB.out | apply below_alloc | apply pw_below_drewN | apply below_drew1 | refine below_set ?_ GE256.out)) hb); clear HO_1; clear HO_2; clear HO_4; clear HO263; clear BK256; clear HB; have HO_1 := n0_; have HO_2 := n1_; have HO_4 := n2_; have HO263 := n3_; have BK256 := n4_; have HB := n5_; clear n0_ n1_ n2_ n3_ n4_ n5_; (try clear hb); (try clear hb2); (try clear hk); (try clear hi); obtain ⟨Ao58, co58, eo58⟩ := Kd.R_slice HO263.out; subst eo58) | (go_at_call 21; (with_reducible refine (polygon_Area2.calls kj7 _ _ y261 t267 _ ?side1 ?side2 A46.out).mono ?_); (case side1 => repeat (first | exact (Kd.R_reads' HO263.out).2.2 | (with_reducible refine Kd.C_alloc ?_ _) | (with_reducible refine Kd.C_drewN ?_ _) | (with_reducible refine Kd.C_drew ?_))); (case side2 => exact (Kd.R_reads' HO263.out).2.1); rintro e w59 ⟨rfl, hb⟩; have n0_ := Aside0.mk (Kd.R_below (by (with_reducible repeat (first | apply Kd.R_alloc | apply Kd.R_drewN | apply Kd.R_drew)); exact HO_1.out) hb); have n1_ := Aside0.mk (Kd.R_below (by (with_reducible repeat (first | apply Kd.R_alloc | apply Kd.R_drewN | apply Kd.R_drew)); exact HO_2.out) hb); have n2_ := Aside0.mk (Kd.V_below (by (with_reducible repeat (first | apply Kd.V_alloc | apply Kd.V_drewN | apply Kd.V_drew)); exact HO_4.out) hb); have n3_ := Aside0.mk (Kd.R_below (by (with_reducible repeat (first | apply Kd.R_alloc | apply Kd.R_drewN | apply Kd.R_drew)); exact HO263.out) hb); have n4_ := Aside0.mk (blk_below (g := gb256) (o := .cells #[.int .i64 t251, .int .i64 t252, .int .i64 t253, .int .i64 t254] 41 (0, 0)) (by (with_reducible repeat (first | refine blk_drewN ?_ _ | refine blk_drew ?_ | refine blk_alloc ?_ _)); exact BK256.out) hb); have n5_ := Aside0.mk (below_step (by repeat (first | exact HB.out | apply below_alloc | apply pw_below_drewN | apply below_drew1 | refine below_set ?_ GE256.out)) hb); clear HO_1; clear HO_2; clear HO_4; clear HO263; clear BK256; clear HB; have HO_1 := n0_; have HO_2 := n1_; have HO_4 := n2_; have HO263 := n3_; have BK256 := n4_; have HB := n5_; clear n0_ n1_ n2_ n3_ n4_ n5_; (try clear hb); (try clear hb2); (try clear hk); (try clear hi)) | (go_at_call 20; (with_reducible refine (polygon_Check.calls kj7 _ _ y261 t268 _ ?side1 ?side2 A48.out).mono ?_); (case side1 => repeat (first | exact (Kd.R_reads' HO263.out).2.2 | (with_reducible refine Kd.C_alloc ?_ _) | (with_reducible refine Kd.C_drewN ?_ _) | (with_reducible refine Kd.C_drew ?_))); (case side2 => exact (Kd.R_reads' HO263.out).2.1); rintro e w60 ⟨rfl, hb⟩; have n0_ := Aside0.mk (Kd.R_below (by (with_reducible repeat (first | apply Kd.R_alloc | apply Kd.R_drewN | apply Kd.R_drew)); exact HO_1.out) hb); have n1_ := Aside0.mk (Kd.R_below (by (with_reducible repeat (first | apply Kd.R_alloc | apply Kd.R_drewN | apply Kd.R_drew)); exact HO_2.out) hb); have n2_ := Aside0.mk (Kd.V_below (by (with_reducible repeat (first | apply Kd.V_alloc | apply Kd.V_drewN | apply Kd.V_drew)); exact HO_4.out) hb); have n3_ := Aside0.mk (Kd.R_below (by (with_reducible repeat (first | apply Kd.R_alloc | apply Kd.R_drewN | apply Kd.R_drew)); exact HO263.out) hb); have n4_ := Aside0.mk (blk_below (g := gb256) (o := .cells #[.int .i64 t251, .int .i64 t252, .int .i64 t253, .int .i64 t254] 41 (0, 0)) (by (with_reducible repeat (first | refine blk_drewN ?_ _ | refine blk_drew ?_ | refine blk_alloc ?_ _)); exact BK256.out) hb); have n5_ := Aside0.mk (below_step (by repeat (first | exact HB.out | apply below_alloc | apply pw_below_drewN | apply below_drew1 | refine below_set ?_ GE256.out)) hb); clear HO_1; clear HO_2; clear HO_4; clear HO263; clear BK256; clear HB; have HO_1 := n0_; have HO_2 := n1_; have HO_4 := n2_; have HO263 := n3_; have BK256 := n4_; have HB := n5_; clear n0_ n1_ n2_ n3_ n4_ n5_; (try clear hb); (try clear hb2); (try clear hk); (try clear hi); have q61 : (2 : Int) ≤ ((y232.length : Int) : Int) := of_decide_eq_true (by first | (with_reducible assumption) | assumption); obtain ⟨i061, hi061, _, hsz61, _⟩ := info_parts info30; have hroom61 : y232.length ≤ co17 := (Kd.R_reads' HO_1.out).2.1; have hC61 : Kd.C k30 _ Ao17 y232.length y232 := (Kd.R_reads' HO_1.out).2.2; have hcut61 := cut_to (P := Try.prog) 22 30 .i64 Try.underlying22 hi061 Ao17 y232.length co17 2 (by omega) q61 hroom61; have hr61 := Kd.C_take (m := 2) hC61 (by omega); have hy61 : y269.length = (2 : Int).toNat := (by rw [Ny269.out, List.length_take]; omega); rw [← Ny269.out] at hr61; rw [← hy61] at hcut61; have HR272 := Aside0.mk hr61; have HC272 := Aside0.mk (show y269.length ≤ co17 from by omega); clear hr61 hC61 hroom61 hi061 hsz61; have KY61 := Aside0.mk hy61; clear hy61; have KL61 := Aside0.mk (show 2 ≤ y232.length from by omega); replace q61 := eq_true q61) | (go_at_call 20; (with_reducible refine (polygon_Check.calls kj7 _ _ y269 t273 _ ?side1 ?side2 A51.out).mono ?_); (case side1 => repeat (first | exact (by repeat (first | (with_reducible exact HR272.out) | (with_reducible refine Kd.C_alloc ?_ _) | (with_reducible refine Kd.C_drewN ?_ _) | (with_reducible refine Kd.C_drew ?_) | exact HR272.out)) | (with_reducible refine Kd.C_alloc ?_ _) | (with_reducible refine Kd.C_drewN ?_ _) | (with_reducible refine Kd.C_drew ?_))); (case side2 => exact HC272.out); rintro e w62 ⟨rfl, hb⟩; have n0_ := Aside0.mk (Kd.R_below (by (with_reducible repeat (first | apply Kd.R_alloc | apply Kd.R_drewN | apply Kd.R_drew)); exact HO_1.out) hb); have n1_ := Aside0.mk (Kd.R_below (by (with_reducible repeat (first | apply Kd.R_alloc | apply Kd.R_drewN | apply Kd.R_drew)); exact HO_2.out) hb); have n2_ := Aside0.mk (Kd.V_below (by (with_reducible repeat (first | apply Kd.V_alloc | apply Kd.V_drewN | apply Kd.V_drew)); exact HO_4.out) hb); have n3_ := Aside0.mk (Kd.R_below (by (with_reducible repeat (first | apply Kd.R_alloc | apply Kd.R_drewN | apply Kd.R_drew)); exact HO263.out) hb); have n4_ := Aside0.mk (blk_below (g := gb256) (o := .cells #[.int .i64 t251, .int .i64 t252, .int .i64 t253, .int .i64 t254] 41 (0, 0)) (by (with_reducible repeat (first | refine blk_drewN ?_ _ | refine blk_drew ?_ | refine blk_alloc ?_ _)); exact BK256.out) hb); have n5_ := Aside0.mk (Kd.C_below (by repeat (first | (with_reducible exact HR272.out) | (with_reducible refine Kd.C_alloc ?_ _) | (with_reducible refine Kd.C_drewN ?_ _) | (with_reducible refine Kd.C_drew ?_) | exact HR272.out)) hb); have n6_ := Aside0.mk (below_step (by repeat (first | exact HB.out | apply below_alloc | apply pw_below_drewN | apply below_drew1 | refine below_set ?_ GE256.out)) hb); clear HO_1; clear HO_2; clear HO_4; clear HO263; clear BK256; clear HR272; clear HB; have HO_1 := n0_; have HO_2 := n1_; have HO_4 := n2_; have HO263 := n3_; have BK256 := n4_; have HR272 := n5_; have HB := n6_; clear n0_ n1_ n2_ n3_ n4_ n5_ n6_; (try clear hb); (try clear hb2); (try clear hk); (try clear hi)))
           go_ret
           exact ⟨by first | rfl | (simp [errW_none, errW_some] <;> rfl) | (simp [*, errW_none, errW_some] <;> rfl), by repeat (first | (with_reducible first | exact HB.out | apply below_alloc | apply pw_below_drewN | apply below_drew1 | refine below_set ?_ GE256.out) | exact HB.out)⟩
          ·rw [if_neg c50] at H
           exact absurd H (by simp)
         ·rw [if_neg c49] at H
          exact absurd H (by simp)
        ·rw [if_neg c47] at H
         exact absurd H (by simp)
       ·rw [if_neg c45] at H
        exact absurd H (by simp)
      ·rw [if_neg c43] at H
       exact absurd H (by simp)
     ·rw [if_neg c41] at H
      exact absurd H (by simp)
    ·replace c40 := Bool.eq_false_iff.mpr c40
     subst c40
     have H1 : (none) = some r := by rw [if_neg (show ¬ (false = true) by decide)] at H; exact H
     clear H
     have H := H1
     clear H1
     exact absurd H (by simp)
end Go.Proofs.Ytccinkbneimmhaa.PPolygonCorners
