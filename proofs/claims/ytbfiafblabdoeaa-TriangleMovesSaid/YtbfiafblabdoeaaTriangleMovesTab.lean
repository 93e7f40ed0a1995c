/- Parts of the proof of TriangleMoves, joined: Tab. -/
import Derived.Test.YtbfiafblabdoeaaTriangleMovesQ3
import Derived.Test.YtbfiafblabdoeaaChecked
import Derived.KernelRfl
set_option linter.unusedVariables false
set_option linter.unusedSimpArgs false
/- The table: each function of the program and its reading. Written by a program of mine. -/
namespace Pm
open Go Go.Proofs
set_option maxRecDepth 20000
def tab : List (Nat × Nat) := [(10, 0), (11, 1), (23, 5), (14, 6), (16, 8), (15, 13), (34, 20), (35, 21), (42, 22), (43, 23), (36, 14), (47, 25), (46, 24), (48, 26), (37, 15), (38, 16), (40, 17), (41, 18), (39, 19), (30, 9), (25, 27), (31, 10), (26, 28), (32, 11), (33, 12), (20, 7), (12, 2), (24, 29), (6, 40), (19, 39)]
def lk : List (Nat × Nat) → Nat → Option Nat
  | [], _ => none
  | x :: l, n => cond (Nat.beq n x.1) (some x.2) (lk l n)
theorem lk_mem : ∀ {l : List (Nat × Nat)} {n g : Nat}, lk l n = some g → (n, g) ∈ l
  | [], _, _, h => by cases h
  | x :: l, n, g, h => by
    simp only [lk] at h
    cases hb : Nat.beq n x.1 with
    | true => rw [hb] at h; simp only [cond_true, Option.some.injEq] at h; rw [Nat.eq_of_beq_eq_true hb, ← h]; exact List.mem_cons_self
    | false => rw [hb] at h; exact List.mem_cons_of_mem _ (lk_mem h)
def ρ : Nat → Option Nat := lk tab
def RowOk (x : Nat × Nat) : Prop := ∃ fn f, Try.prog.funcs[x.1]? = some fn ∧ G x.2 = some f ∧ okFn Try.prog ρ fn f = true ∧ enterB Try.prog x.1 = true ∧ ∀ e, f.sp = some e → runF noC 0 f [.nil] = some [.own e []] ∧ runF noC 0 f [.nn e []] = some [.own e []]
theorem row10 : RowOk (10, 0) := ⟨Try.f10, cf_garmentlaw13_many, Try.func10, by kernel_rfl, by kernel_rfl, by kernel_rfl, fun e h => by cases h⟩
theorem row11 : RowOk (11, 1) := ⟨Try.f11, cf_garmentlaw13_alive, Try.func11, by kernel_rfl, by kernel_rfl, by kernel_rfl, fun e h => by cases h⟩
theorem row23 : RowOk (23, 5) := ⟨Try.f23, cf_garmentlaw13_bracket, Try.func23, by kernel_rfl, by kernel_rfl, by kernel_rfl, fun e h => by cases h⟩
theorem row14 : RowOk (14, 6) := ⟨Try.f14, cf_triangle_Split, Try.func14, by kernel_rfl, by kernel_rfl, by kernel_rfl, fun e h => by cases h⟩
theorem row16 : RowOk (16, 8) := ⟨Try.f16, cf_polygon_Normal, Try.func16, by kernel_rfl, by kernel_rfl, by kernel_rfl, fun e h => by cases h⟩
theorem row15 : RowOk (15, 13) := ⟨Try.f15, cf_polygon_Check, Try.func15, by kernel_rfl, by kernel_rfl, by kernel_rfl, fun e h => by cases h⟩
theorem row34 : RowOk (34, 20) := ⟨Try.f34, cf_polygon_inside, Try.func34, by kernel_rfl, by kernel_rfl, by kernel_rfl, fun e h => by cases h⟩
theorem row35 : RowOk (35, 21) := ⟨Try.f35, cf_polygon_simple, Try.func35, by kernel_rfl, by kernel_rfl, by kernel_rfl, fun e h => by cases h⟩
theorem row42 : RowOk (42, 22) := ⟨Try.f42, cf_polygon_sides, Try.func42, by kernel_rfl, by kernel_rfl, by kernel_rfl, fun e h => by cases h⟩
theorem row43 : RowOk (43, 23) := ⟨Try.f43, cf_polygon_side_holds, Try.func43, by kernel_rfl, by kernel_rfl, by kernel_rfl, fun e h => by cases h⟩
theorem row36 : RowOk (36, 14) := ⟨Try.f36, cf_polygon_turn, Try.func36, by kernel_rfl, by kernel_rfl, by kernel_rfl, fun e h => by cases h⟩
theorem row47 : RowOk (47, 25) := ⟨Try.f47, cf_polygon_within, Try.func47, by kernel_rfl, by kernel_rfl, by kernel_rfl, fun e h => by cases h⟩
theorem row46 : RowOk (46, 24) := ⟨Try.f46, cf_polygon_side_meets, Try.func46, by kernel_rfl, by kernel_rfl, by kernel_rfl, fun e h => by cases h⟩
theorem row48 : RowOk (48, 26) := ⟨Try.f48, cf_polygon_side_divides, Try.func48, by kernel_rfl, by kernel_rfl, by kernel_rfl, fun e h => by cases h⟩
theorem row37 : RowOk (37, 15) := ⟨Try.f37, cf_polygon_area, Try.func37, by kernel_rfl, by kernel_rfl, by kernel_rfl, fun e h => by cases h⟩
theorem row38 : RowOk (38, 16) := ⟨Try.f38, cf_slices_Reverse_api_Spot_api_Spot, Try.func38, by kernel_rfl, by kernel_rfl, by kernel_rfl, fun e h => by cases h⟩
theorem row40 : RowOk (40, 17) := ⟨Try.f40, cf_slices_MinFunc_api_Spot_api_Spot, Try.func40, by kernel_rfl, by kernel_rfl, by kernel_rfl, fun e h => by cases h⟩
theorem row41 : RowOk (41, 18) := ⟨Try.f41, cf_polygon_order, Try.func41, by kernel_rfl, by kernel_rfl, by kernel_rfl, fun e h => by cases h⟩
theorem row39 : RowOk (39, 19) := ⟨Try.f39, cf_slices_Index_api_Spot_api_Spot, Try.func39, by kernel_rfl, by kernel_rfl, by kernel_rfl, fun e h => by cases h⟩
theorem row30 : RowOk (30, 9) := ⟨Try.f30, cf_triangle_Split_1, Try.func30, by kernel_rfl, by kernel_rfl, by kernel_rfl, fun e h => by cases h⟩
theorem row25 : RowOk (25, 27) := ⟨Try.f25, cf_triangle_cross, Try.func25, by kernel_rfl, by kernel_rfl, by kernel_rfl, fun e h => by cases h⟩
theorem row31 : RowOk (31, 10) := ⟨Try.f31, cf_triangle_Split_2, Try.func31, by kernel_rfl, by kernel_rfl, by kernel_rfl, fun e h => by cases h⟩
theorem row26 : RowOk (26, 28) := ⟨Try.f26, cf_triangle_covers, Try.func26, by kernel_rfl, by kernel_rfl, by kernel_rfl, fun e h => by cases h⟩
theorem row32 : RowOk (32, 11) := ⟨Try.f32, cf_triangle_find, Try.func32, by kernel_rfl, by kernel_rfl, by kernel_rfl, fun e h => by cases h⟩
theorem row33 : RowOk (33, 12) := ⟨Try.f33, cf_triangle_without, Try.func33, by kernel_rfl, by kernel_rfl, by kernel_rfl, fun e h => by cases h⟩
theorem row20 : RowOk (20, 7) := ⟨Try.f20, cf_garmentref11_Same, Try.func20, by kernel_rfl, by kernel_rfl, by kernel_rfl, fun e h => by cases h⟩
theorem row12 : RowOk (12, 2) := ⟨Try.f12, cf_triangle_Holds, Try.func12, by kernel_rfl, by kernel_rfl, by kernel_rfl, fun e h => by cases h⟩
theorem row24 : RowOk (24, 29) := ⟨Try.f24, cf_triangle_near, Try.func24, by kernel_rfl, by kernel_rfl, by kernel_rfl, fun e h => by cases h⟩
theorem row6 : RowOk (6, 40) := ⟨Try.f6, cf_garmentlaw13_TriangleMoves, Try.func6, by kernel_rfl, by kernel_rfl, by kernel_rfl, fun e h => by cases h⟩
theorem row19 : RowOk (19, 39) := ⟨Try.f19, cf_polygon_Move, Try.func19, by kernel_rfl, by kernel_rfl, by kernel_rfl, fun e h => by cases h⟩
theorem table : Table Try.prog ρ G := fun fid g h => by
  have : ∀ x ∈ tab, RowOk x := by
    simp only [tab, List.forall_mem_cons]
    exact ⟨row10, row11, row23, row14, row16, row15, row34, row35, row42, row43, row36, row47, row46, row48, row37, row38, row40, row41, row39, row30, row25, row31, row26, row32, row33, row20, row12, row24, row6, row19, by simp⟩
  exact this (fid, g) (lk_mem h)
end Pm
