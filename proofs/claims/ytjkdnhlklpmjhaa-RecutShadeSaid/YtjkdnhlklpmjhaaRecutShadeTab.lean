/- Parts of the proof of RecutShade, joined: Tab. -/
import Derived.Test.YtjkdnhlklpmjhaaRecutShadeQ3
import Derived.Test.YtjkdnhlklpmjhaaChecked
import Derived.KernelRfl
set_option linter.unusedVariables false
set_option linter.unusedSimpArgs false
/- The table: each function of the program and its reading. Written by a program of mine. -/
namespace Pm
open Go Go.Proofs
set_option maxRecDepth 20000
def tab : List (Nat × Nat) := [(9, 46), (10, 47), (17, 53), (25, 57), (27, 58), (28, 60), (26, 59), (19, 54), (14, 51), (20, 55), (29, 61), (32, 13), (34, 20), (35, 21), (38, 22), (39, 23), (43, 14), (44, 25), (40, 24), (45, 26), (11, 48), (22, 62), (21, 56), (13, 50), (15, 63), (4, 76), (16, 75)]
def lk : List (Nat × Nat) → Nat → Option Nat
  | [], _ => none
  | x :: l, n => cond (Nat.beq n x.1) (some x.2) (lk l n)
theorem lk_mem : ∀ {l : List (Nat × Nat)} {n g : Nat}, lk l n = some g → (n, g) ∈ l
  | [], _, _, h => by cases h
  | x :: l, n, g, h => by
    simp only [lk] at h
    cases hb : Nat.beq n x.1 with
    | true => rw [hb] at h; simp only [cond_true, Option.some.injEq] at h; rw [Nat.eq_of_beq_eq_true hb, ← h]; exact List.mem_cons_self
    | false => rw [hb] at h; exact List.mem_cons_of_mem _ (lk_mem h)
def ρ : Nat → Option Nat := lk tab
def RowOk (x : Nat × Nat) : Prop := ∃ fn f, Try.prog.funcs[x.1]? = some fn ∧ G x.2 = some f ∧ okFn Try.prog ρ fn f = true ∧ enterB Try.prog x.1 = true ∧ ∀ e, f.sp = some e → runF noC 0 f [.nil] = some [.own e []] ∧ runF noC 0 f [.nn e []] = some [.own e []]
theorem row9 : RowOk (9, 46) := ⟨Try.f9, cf_garmentref43_Few, Try.func9, by kernel_rfl, by kernel_rfl, by kernel_rfl, fun e h => by cases h⟩
theorem row10 : RowOk (10, 47) := ⟨Try.f10, cf_garmentlaw43_exampleHolds, Try.func10, by kernel_rfl, by kernel_rfl, by kernel_rfl, fun e h => by cases h⟩
theorem row17 : RowOk (17, 53) := ⟨Try.f17, cf_recut_Assign, Try.func17, by kernel_rfl, by kernel_rfl, by kernel_rfl, fun e h => by cases h⟩
theorem row25 : RowOk (25, 57) := ⟨Try.f25, cf_slices_Clone_api_Rest_api_Rest, Try.func25, by kernel_rfl, by kernel_rfl, by kernel_rfl, fun e h => by cases h; exact ⟨by kernel_rfl, by kernel_rfl⟩⟩
theorem row27 : RowOk (27, 58) := ⟨Try.f27, cf_recut_Assign_1, Try.func27, by kernel_rfl, by kernel_rfl, by kernel_rfl, fun e h => by cases h⟩
theorem row28 : RowOk (28, 60) := ⟨Try.f28, cf_recut_suits, Try.func28, by kernel_rfl, by kernel_rfl, by kernel_rfl, fun e h => by cases h⟩
theorem row26 : RowOk (26, 59) := ⟨Try.f26, cf_slices_IndexFunc_api_Rest_api_Rest, Try.func26, by kernel_rfl, by kernel_rfl, by kernel_rfl, fun e h => by cases h⟩
theorem row19 : RowOk (19, 54) := ⟨Try.f19, cf_garmentref43_SameInts, Try.func19, by kernel_rfl, by kernel_rfl, by kernel_rfl, fun e h => by cases h⟩
theorem row14 : RowOk (14, 51) := ⟨Try.f14, cf_garmentref43_SameRests, Try.func14, by kernel_rfl, by kernel_rfl, by kernel_rfl, fun e h => by cases h⟩
theorem row20 : RowOk (20, 55) := ⟨Try.f20, cf_recut_Needs, Try.func20, by kernel_rfl, by kernel_rfl, by kernel_rfl, fun e h => by cases h⟩
theorem row29 : RowOk (29, 61) := ⟨Try.f29, cf_polygon_Box, Try.func29, by kernel_rfl, by kernel_rfl, by kernel_rfl, fun e h => by cases h⟩
theorem row32 : RowOk (32, 13) := ⟨Try.f32, cf_polygon_Check, Try.func32, by kernel_rfl, by kernel_rfl, by kernel_rfl, fun e h => by cases h⟩
theorem row34 : RowOk (34, 20) := ⟨Try.f34, cf_polygon_inside, Try.func34, by kernel_rfl, by kernel_rfl, by kernel_rfl, fun e h => by cases h⟩
theorem row35 : RowOk (35, 21) := ⟨Try.f35, cf_polygon_simple, Try.func35, by kernel_rfl, by kernel_rfl, by kernel_rfl, fun e h => by cases h⟩
theorem row38 : RowOk (38, 22) := ⟨Try.f38, cf_polygon_sides, Try.func38, by kernel_rfl, by kernel_rfl, by kernel_rfl, fun e h => by cases h⟩
theorem row39 : RowOk (39, 23) := ⟨Try.f39, cf_polygon_side_holds, Try.func39, by kernel_rfl, by kernel_rfl, by kernel_rfl, fun e h => by cases h⟩
theorem row43 : RowOk (43, 14) := ⟨Try.f43, cf_polygon_turn, Try.func43, by kernel_rfl, by kernel_rfl, by kernel_rfl, fun e h => by cases h⟩
theorem row44 : RowOk (44, 25) := ⟨Try.f44, cf_polygon_within, Try.func44, by kernel_rfl, by kernel_rfl, by kernel_rfl, fun e h => by cases h⟩
theorem row40 : RowOk (40, 24) := ⟨Try.f40, cf_polygon_side_meets, Try.func40, by kernel_rfl, by kernel_rfl, by kernel_rfl, fun e h => by cases h⟩
theorem row45 : RowOk (45, 26) := ⟨Try.f45, cf_polygon_side_divides, Try.func45, by kernel_rfl, by kernel_rfl, by kernel_rfl, fun e h => by cases h⟩
theorem row11 : RowOk (11, 48) := ⟨Try.f11, cf_recut_Recut, Try.func11, by kernel_rfl, by kernel_rfl, by kernel_rfl, fun e h => by cases h⟩
theorem row22 : RowOk (22, 62) := ⟨Try.f22, cf_slices_Clone_int_int, Try.func22, by kernel_rfl, by kernel_rfl, by kernel_rfl, fun e h => by cases h; exact ⟨by kernel_rfl, by kernel_rfl⟩⟩
theorem row21 : RowOk (21, 56) := ⟨Try.f21, cf_garmentref43_SameNeeds, Try.func21, by kernel_rfl, by kernel_rfl, by kernel_rfl, fun e h => by cases h⟩
theorem row13 : RowOk (13, 50) := ⟨Try.f13, cf_garmentref43_SameCuts, Try.func13, by kernel_rfl, by kernel_rfl, by kernel_rfl, fun e h => by cases h⟩
theorem row15 : RowOk (15, 63) := ⟨Try.f15, cf_garmentref43_SameCut, Try.func15, by kernel_rfl, by kernel_rfl, by kernel_rfl, fun e h => by cases h⟩
theorem row4 : RowOk (4, 76) := ⟨Try.f4, cf_garmentlaw43_RecutShade, Try.func4, by kernel_rfl, by kernel_rfl, by kernel_rfl, fun e h => by cases h⟩
theorem row16 : RowOk (16, 75) := ⟨Try.f16, cf_garmentlaw43_of, Try.func16, by kernel_rfl, by kernel_rfl, by kernel_rfl, fun e h => by cases h⟩
theorem table : Table Try.prog ρ G := fun fid g h => by
  have : ∀ x ∈ tab, RowOk x := by
    simp only [tab, List.forall_mem_cons]
    exact ⟨row9, row10, row17, row25, row27, row28, row26, row19, row14, row20, row29, row32, row34, row35, row38, row39, row43, row44, row40, row45, row11, row22, row21, row13, row15, row4, row16, by simp⟩
  exact this (fid, g) (lk_mem h)
end Pm
