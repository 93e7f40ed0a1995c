/- Parts of the proof of OverlapCrosses, joined: Tab. -/
import Derived.Test.YtobgcfncnfepfaaOverlapCrossesQ4
import Derived.Test.YtobgcfncnfepfaaChecked
import Derived.KernelRfl
set_option linter.unusedVariables false
set_option linter.unusedSimpArgs false
/- The table: each function of the program and its reading. Written by a program of mine. -/
namespace Pm
open Go Go.Proofs
set_option maxRecDepth 20000
def tab : List (Nat × Nat) := [(13, 138), (31, 144), (14, 139), (32, 147), (27, 6), (42, 8), (40, 13), (49, 20), (65, 21), (50, 22), (51, 23), (52, 14), (71, 25), (80, 24), (84, 26), (66, 15), (67, 16), (69, 17), (70, 18), (68, 19), (43, 9), (44, 27), (45, 10), (46, 28), (47, 11), (48, 12), (33, 148), (54, 149), (16, 141), (26, 145), (41, 150), (18, 146), (21, 61), (20, 67), (38, 68), (39, 69), (63, 70), (72, 33), (64, 71), (79, 72), (4, 167), (19, 166)]
def lk : List (Nat × Nat) → Nat → Option Nat
  | [], _ => none
  | x :: l, n => cond (Nat.beq n x.1) (some x.2) (lk l n)
theorem lk_mem : ∀ {l : List (Nat × Nat)} {n g : Nat}, lk l n = some g → (n, g) ∈ l
  | [], _, _, h => by cases h
  | x :: l, n, g, h => by
    simp only [lk] at h
    cases hb : Nat.beq n x.1 with
    | true => rw [hb] at h; simp only [cond_true, Option.some.injEq] at h; rw [Nat.eq_of_beq_eq_true hb, ← h]; exact List.mem_cons_self
    | false => rw [hb] at h; exact List.mem_cons_of_mem _ (lk_mem h)
def ρ : Nat → Option Nat := lk tab
def RowOk (x : Nat × Nat) : Prop := ∃ fn f, Try.prog.funcs[x.1]? = some fn ∧ G x.2 = some f ∧ okFn Try.prog ρ fn f = true ∧ enterB Try.prog x.1 = true ∧ ∀ e, f.sp = some e → runF noC 0 f [.nil] = some [.own e []] ∧ runF noC 0 f [.nn e []] = some [.own e []]
theorem row13 : RowOk (13, 138) := ⟨Try.f13, cf_garmentlaw15_exampleHolds, Try.func13, by kernel_rfl, by kernel_rfl, by kernel_rfl, fun e h => by cases h⟩
theorem row31 : RowOk (31, 144) := ⟨Try.f31, cf_garmentlaw15_rect, Try.func31, by kernel_rfl, by kernel_rfl, by kernel_rfl, fun e h => by cases h⟩
theorem row14 : RowOk (14, 139) := ⟨Try.f14, cf_overlap_Overlap, Try.func14, by kernel_rfl, by kernel_rfl, by kernel_rfl, fun e h => by cases h⟩
theorem row32 : RowOk (32, 147) := ⟨Try.f32, cf_overlap_split, Try.func32, by kernel_rfl, by kernel_rfl, by kernel_rfl, fun e h => by cases h⟩
theorem row27 : RowOk (27, 6) := ⟨Try.f27, cf_triangle_Split, Try.func27, by kernel_rfl, by kernel_rfl, by kernel_rfl, fun e h => by cases h⟩
theorem row42 : RowOk (42, 8) := ⟨Try.f42, cf_polygon_Normal, Try.func42, by kernel_rfl, by kernel_rfl, by kernel_rfl, fun e h => by cases h⟩
theorem row40 : RowOk (40, 13) := ⟨Try.f40, cf_polygon_Check, Try.func40, by kernel_rfl, by kernel_rfl, by kernel_rfl, fun e h => by cases h⟩
theorem row49 : RowOk (49, 20) := ⟨Try.f49, cf_polygon_inside, Try.func49, by kernel_rfl, by kernel_rfl, by kernel_rfl, fun e h => by cases h⟩
theorem row65 : RowOk (65, 21) := ⟨Try.f65, cf_polygon_simple, Try.func65, by kernel_rfl, by kernel_rfl, by kernel_rfl, fun e h => by cases h⟩
theorem row50 : RowOk (50, 22) := ⟨Try.f50, cf_polygon_sides, Try.func50, by kernel_rfl, by kernel_rfl, by kernel_rfl, fun e h => by cases h⟩
theorem row51 : RowOk (51, 23) := ⟨Try.f51, cf_polygon_side_holds, Try.func51, by kernel_rfl, by kernel_rfl, by kernel_rfl, fun e h => by cases h⟩
theorem row52 : RowOk (52, 14) := ⟨Try.f52, cf_polygon_turn, Try.func52, by kernel_rfl, by kernel_rfl, by kernel_rfl, fun e h => by cases h⟩
theorem row71 : RowOk (71, 25) := ⟨Try.f71, cf_polygon_within, Try.func71, by kernel_rfl, by kernel_rfl, by kernel_rfl, fun e h => by cases h⟩
theorem row80 : RowOk (80, 24) := ⟨Try.f80, cf_polygon_side_meets, Try.func80, by kernel_rfl, by kernel_rfl, by kernel_rfl, fun e h => by cases h⟩
theorem row84 : RowOk (84, 26) := ⟨Try.f84, cf_polygon_side_divides, Try.func84, by kernel_rfl, by kernel_rfl, by kernel_rfl, fun e h => by cases h⟩
theorem row66 : RowOk (66, 15) := ⟨Try.f66, cf_polygon_area, Try.func66, by kernel_rfl, by kernel_rfl, by kernel_rfl, fun e h => by cases h⟩
theorem row67 : RowOk (67, 16) := ⟨Try.f67, cf_slices_Reverse_api_Spot_api_Spot, Try.func67, by kernel_rfl, by kernel_rfl, by kernel_rfl, fun e h => by cases h⟩
theorem row69 : RowOk (69, 17) := ⟨Try.f69, cf_slices_MinFunc_api_Spot_api_Spot, Try.func69, by kernel_rfl, by kernel_rfl, by kernel_rfl, fun e h => by cases h⟩
theorem row70 : RowOk (70, 18) := ⟨Try.f70, cf_polygon_order, Try.func70, by kernel_rfl, by kernel_rfl, by kernel_rfl, fun e h => by cases h⟩
theorem row68 : RowOk (68, 19) := ⟨Try.f68, cf_slices_Index_api_Spot_api_Spot, Try.func68, by kernel_rfl, by kernel_rfl, by kernel_rfl, fun e h => by cases h⟩
theorem row43 : RowOk (43, 9) := ⟨Try.f43, cf_triangle_Split_1, Try.func43, by kernel_rfl, by kernel_rfl, by kernel_rfl, fun e h => by cases h⟩
theorem row44 : RowOk (44, 27) := ⟨Try.f44, cf_triangle_cross, Try.func44, by kernel_rfl, by kernel_rfl, by kernel_rfl, fun e h => by cases h⟩
theorem row45 : RowOk (45, 10) := ⟨Try.f45, cf_triangle_Split_2, Try.func45, by kernel_rfl, by kernel_rfl, by kernel_rfl, fun e h => by cases h⟩
theorem row46 : RowOk (46, 28) := ⟨Try.f46, cf_triangle_covers, Try.func46, by kernel_rfl, by kernel_rfl, by kernel_rfl, fun e h => by cases h⟩
theorem row47 : RowOk (47, 11) := ⟨Try.f47, cf_triangle_find, Try.func47, by kernel_rfl, by kernel_rfl, by kernel_rfl, fun e h => by cases h⟩
theorem row48 : RowOk (48, 12) := ⟨Try.f48, cf_triangle_without, Try.func48, by kernel_rfl, by kernel_rfl, by kernel_rfl, fun e h => by cases h⟩
theorem row33 : RowOk (33, 148) := ⟨Try.f33, cf_overlap_meet, Try.func33, by kernel_rfl, by kernel_rfl, by kernel_rfl, fun e h => by cases h⟩
theorem row54 : RowOk (54, 149) := ⟨Try.f54, cf_overlap_outside, Try.func54, by kernel_rfl, by kernel_rfl, by kernel_rfl, fun e h => by cases h⟩
theorem row16 : RowOk (16, 141) := ⟨Try.f16, cf_overlap_Touch, Try.func16, by kernel_rfl, by kernel_rfl, by kernel_rfl, fun e h => by cases h⟩
theorem row26 : RowOk (26, 145) := ⟨Try.f26, cf_overlap_Hits, Try.func26, by kernel_rfl, by kernel_rfl, by kernel_rfl, fun e h => by cases h⟩
theorem row41 : RowOk (41, 150) := ⟨Try.f41, cf_overlap_clip, Try.func41, by kernel_rfl, by kernel_rfl, by kernel_rfl, fun e h => by cases h⟩
theorem row18 : RowOk (18, 146) := ⟨Try.f18, cf_overlap_Crosses, Try.func18, by kernel_rfl, by kernel_rfl, by kernel_rfl, fun e h => by cases h⟩
theorem row21 : RowOk (21, 61) := ⟨Try.f21, cf_polygon_Box, Try.func21, by kernel_rfl, by kernel_rfl, by kernel_rfl, fun e h => by cases h⟩
theorem row20 : RowOk (20, 67) := ⟨Try.f20, cf_garmentref11_Check, Try.func20, by kernel_rfl, by kernel_rfl, by kernel_rfl, fun e h => by cases h⟩
theorem row38 : RowOk (38, 68) := ⟨Try.f38, cf_garmentref11_Within, Try.func38, by kernel_rfl, by kernel_rfl, by kernel_rfl, fun e h => by cases h⟩
theorem row39 : RowOk (39, 69) := ⟨Try.f39, cf_garmentref11_simple, Try.func39, by kernel_rfl, by kernel_rfl, by kernel_rfl, fun e h => by cases h⟩
theorem row63 : RowOk (63, 70) := ⟨Try.f63, cf_garmentref11_Between, Try.func63, by kernel_rfl, by kernel_rfl, by kernel_rfl, fun e h => by cases h⟩
theorem row72 : RowOk (72, 33) := ⟨Try.f72, cf_garmentref11_Cross, Try.func72, by kernel_rfl, by kernel_rfl, by kernel_rfl, fun e h => by cases h⟩
theorem row64 : RowOk (64, 71) := ⟨Try.f64, cf_garmentref11_meet, Try.func64, by kernel_rfl, by kernel_rfl, by kernel_rfl, fun e h => by cases h⟩
theorem row79 : RowOk (79, 72) := ⟨Try.f79, cf_garmentref11_sign, Try.func79, by kernel_rfl, by kernel_rfl, by kernel_rfl, fun e h => by cases h⟩
theorem row4 : RowOk (4, 167) := ⟨Try.f4, cf_garmentlaw15_OverlapCrosses, Try.func4, by kernel_rfl, by kernel_rfl, by kernel_rfl, fun e h => by cases h⟩
theorem row19 : RowOk (19, 166) := ⟨Try.f19, cf_garmentref15_Crosses, Try.func19, by kernel_rfl, by kernel_rfl, by kernel_rfl, fun e h => by cases h⟩
theorem table : Table Try.prog ρ G := fun fid g h => by
  have : ∀ x ∈ tab, RowOk x := by
    simp only [tab, List.forall_mem_cons]
    exact ⟨row13, row31, row14, row32, row27, row42, row40, row49, row65, row50, row51, row52, row71, row80, row84, row66, row67, row69, row70, row68, row43, row44, row45, row46, row47, row48, row33, row54, row16, row26, row41, row18, row21, row20, row38, row39, row63, row72, row64, row79, row4, row19, by simp⟩
  exact this (fid, g) (lk_mem h)
end Pm
