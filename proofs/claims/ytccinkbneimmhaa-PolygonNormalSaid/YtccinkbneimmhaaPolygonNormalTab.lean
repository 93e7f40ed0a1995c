/- Parts of the proof of PolygonNormal, joined: Tab. -/
import Derived.Test.YtccinkbneimmhaaPolygonNormalQ3
import Derived.Test.YtccinkbneimmhaaChecked
import Derived.KernelRfl
set_option linter.unusedVariables false
set_option linter.unusedSimpArgs false
/- The table: each function of the program and its reading. Written by a program of mine. -/
namespace Pm
open Go Go.Proofs
set_option maxRecDepth 20000
def tab : List (Nat × Nat) := [(12, 81), (13, 82), (14, 8), (20, 13), (41, 20), (45, 21), (42, 22), (43, 23), (33, 14), (47, 25), (49, 24), (51, 26), (34, 15), (35, 16), (37, 17), (38, 18), (36, 19), (17, 43), (24, 61), (26, 41), (16, 7), (21, 36), (23, 33), (19, 86), (22, 88), (5, 92)]
def lk : List (Nat × Nat) → Nat → Option Nat
  | [], _ => none
  | x :: l, n => cond (Nat.beq n x.1) (some x.2) (lk l n)
theorem lk_mem : ∀ {l : List (Nat × Nat)} {n g : Nat}, lk l n = some g → (n, g) ∈ l
  | [], _, _, h => by cases h
  | x :: l, n, g, h => by
    simp only [lk] at h
    cases hb : Nat.beq n x.1 with
    | true => rw [hb] at h; simp only [cond_true, Option.some.injEq] at h; rw [Nat.eq_of_beq_eq_true hb, ← h]; exact List.mem_cons_self
    | false => rw [hb] at h; exact List.mem_cons_of_mem _ (lk_mem h)
def ρ : Nat → Option Nat := lk tab
def RowOk (x : Nat × Nat) : Prop := ∃ fn f, Try.prog.funcs[x.1]? = some fn ∧ G x.2 = some f ∧ okFn Try.prog ρ fn f = true ∧ enterB Try.prog x.1 = true ∧ ∀ e, f.sp = some e → runF noC 0 f [.nil] = some [.own e []] ∧ runF noC 0 f [.nn e []] = some [.own e []]
theorem row12 : RowOk (12, 81) := ⟨Try.f12, cf_garmentlaw11_few, Try.func12, by kernel_rfl, by kernel_rfl, by kernel_rfl, fun e h => by cases h⟩
theorem row13 : RowOk (13, 82) := ⟨Try.f13, cf_garmentlaw11_awake, Try.func13, by kernel_rfl, by kernel_rfl, by kernel_rfl, fun e h => by cases h⟩
theorem row14 : RowOk (14, 8) := ⟨Try.f14, cf_polygon_Normal, Try.func14, by kernel_rfl, by kernel_rfl, by kernel_rfl, fun e h => by cases h⟩
theorem row20 : RowOk (20, 13) := ⟨Try.f20, cf_polygon_Check, Try.func20, by kernel_rfl, by kernel_rfl, by kernel_rfl, fun e h => by cases h⟩
theorem row41 : RowOk (41, 20) := ⟨Try.f41, cf_polygon_inside, Try.func41, by kernel_rfl, by kernel_rfl, by kernel_rfl, fun e h => by cases h⟩
theorem row45 : RowOk (45, 21) := ⟨Try.f45, cf_polygon_simple, Try.func45, by kernel_rfl, by kernel_rfl, by kernel_rfl, fun e h => by cases h⟩
theorem row42 : RowOk (42, 22) := ⟨Try.f42, cf_polygon_sides, Try.func42, by kernel_rfl, by kernel_rfl, by kernel_rfl, fun e h => by cases h⟩
theorem row43 : RowOk (43, 23) := ⟨Try.f43, cf_polygon_side_holds, Try.func43, by kernel_rfl, by kernel_rfl, by kernel_rfl, fun e h => by cases h⟩
theorem row33 : RowOk (33, 14) := ⟨Try.f33, cf_polygon_turn, Try.func33, by kernel_rfl, by kernel_rfl, by kernel_rfl, fun e h => by cases h⟩
theorem row47 : RowOk (47, 25) := ⟨Try.f47, cf_polygon_within, Try.func47, by kernel_rfl, by kernel_rfl, by kernel_rfl, fun e h => by cases h⟩
theorem row49 : RowOk (49, 24) := ⟨Try.f49, cf_polygon_side_meets, Try.func49, by kernel_rfl, by kernel_rfl, by kernel_rfl, fun e h => by cases h⟩
theorem row51 : RowOk (51, 26) := ⟨Try.f51, cf_polygon_side_divides, Try.func51, by kernel_rfl, by kernel_rfl, by kernel_rfl, fun e h => by cases h⟩
theorem row34 : RowOk (34, 15) := ⟨Try.f34, cf_polygon_area, Try.func34, by kernel_rfl, by kernel_rfl, by kernel_rfl, fun e h => by cases h⟩
theorem row35 : RowOk (35, 16) := ⟨Try.f35, cf_slices_Reverse_api_Spot_api_Spot, Try.func35, by kernel_rfl, by kernel_rfl, by kernel_rfl, fun e h => by cases h⟩
theorem row37 : RowOk (37, 17) := ⟨Try.f37, cf_slices_MinFunc_api_Spot_api_Spot, Try.func37, by kernel_rfl, by kernel_rfl, by kernel_rfl, fun e h => by cases h⟩
theorem row38 : RowOk (38, 18) := ⟨Try.f38, cf_polygon_order, Try.func38, by kernel_rfl, by kernel_rfl, by kernel_rfl, fun e h => by cases h⟩
theorem row36 : RowOk (36, 19) := ⟨Try.f36, cf_slices_Index_api_Spot_api_Spot, Try.func36, by kernel_rfl, by kernel_rfl, by kernel_rfl, fun e h => by cases h⟩
theorem row17 : RowOk (17, 43) := ⟨Try.f17, cf_polygon_Where, Try.func17, by kernel_rfl, by kernel_rfl, by kernel_rfl, fun e h => by cases h⟩
theorem row24 : RowOk (24, 61) := ⟨Try.f24, cf_polygon_Box, Try.func24, by kernel_rfl, by kernel_rfl, by kernel_rfl, fun e h => by cases h⟩
theorem row26 : RowOk (26, 41) := ⟨Try.f26, cf_polygon_Convex, Try.func26, by kernel_rfl, by kernel_rfl, by kernel_rfl, fun e h => by cases h⟩
theorem row16 : RowOk (16, 7) := ⟨Try.f16, cf_garmentref11_Same, Try.func16, by kernel_rfl, by kernel_rfl, by kernel_rfl, fun e h => by cases h⟩
theorem row21 : RowOk (21, 36) := ⟨Try.f21, cf_polygon_Area2, Try.func21, by kernel_rfl, by kernel_rfl, by kernel_rfl, fun e h => by cases h⟩
theorem row23 : RowOk (23, 33) := ⟨Try.f23, cf_garmentref11_Cross, Try.func23, by kernel_rfl, by kernel_rfl, by kernel_rfl, fun e h => by cases h⟩
theorem row19 : RowOk (19, 86) := ⟨Try.f19, cf_garmentref11_Reversed, Try.func19, by kernel_rfl, by kernel_rfl, by kernel_rfl, fun e h => by cases h⟩
theorem row22 : RowOk (22, 88) := ⟨Try.f22, cf_garmentref11_Less, Try.func22, by kernel_rfl, by kernel_rfl, by kernel_rfl, fun e h => by cases h⟩
theorem row5 : RowOk (5, 92) := ⟨Try.f5, cf_garmentlaw11_PolygonNormal, Try.func5, by kernel_rfl, by kernel_rfl, by kernel_rfl, fun e h => by cases h⟩
theorem table : Table Try.prog ρ G := fun fid g h => by
  have : ∀ x ∈ tab, RowOk x := by
    simp only [tab, List.forall_mem_cons]
    exact ⟨row12, row13, row14, row20, row41, row45, row42, row43, row33, row47, row49, row51, row34, row35, row37, row38, row36, row17, row24, row26, row16, row21, row23, row19, row22, row5, by simp⟩
  exact this (fid, g) (lk_mem h)
end Pm
