/- Parts of the proof of PathBegins, joined: Tab. -/
import Derived.Test.YtlplkmalllakiaaPathBeginsQ3
import Derived.Test.YtlplkmalllakiaaChecked
import Derived.KernelRfl
set_option linter.unusedVariables false
set_option linter.unusedSimpArgs false
/- The table: each function of the program and its reading. Written by a program of mine. -/
namespace Pm
open Go Go.Proofs
set_option maxRecDepth 20000
def tab : List (Nat × Nat) := [(9, 102), (10, 103), (22, 107), (21, 111), (11, 104), (23, 112), (27, 114), (20, 13), (33, 20), (34, 21), (42, 22), (43, 23), (48, 14), (49, 25), (44, 24), (50, 26), (24, 113), (13, 108), (28, 115), (36, 116), (15, 109), (30, 62), (31, 117), (38, 118), (39, 119), (40, 120), (47, 121), (17, 110), (7, 135)]
def lk : List (Nat × Nat) → Nat → Option Nat
  | [], _ => none
  | x :: l, n => cond (Nat.beq n x.1) (some x.2) (lk l n)
theorem lk_mem : ∀ {l : List (Nat × Nat)} {n g : Nat}, lk l n = some g → (n, g) ∈ l
  | [], _, _, h => by cases h
  | x :: l, n, g, h => by
    simp only [lk] at h
    cases hb : Nat.beq n x.1 with
    | true => rw [hb] at h; simp only [cond_true, Option.some.injEq] at h; rw [Nat.eq_of_beq_eq_true hb, ← h]; exact List.mem_cons_self
    | false => rw [hb] at h; exact List.mem_cons_of_mem _ (lk_mem h)
def ρ : Nat → Option Nat := lk tab
def RowOk (x : Nat × Nat) : Prop := ∃ fn f, Try.prog.funcs[x.1]? = some fn ∧ G x.2 = some f ∧ okFn Try.prog ρ fn f = true ∧ enterB Try.prog x.1 = true ∧ ∀ e, f.sp = some e → runF noC 0 f [.nil] = some [.own e []] ∧ runF noC 0 f [.nn e []] = some [.own e []]
theorem row9 : RowOk (9, 102) := ⟨Try.f9, cf_garmentref41_Light, Try.func9, by kernel_rfl, by kernel_rfl, by kernel_rfl, fun e h => by cases h⟩
theorem row10 : RowOk (10, 103) := ⟨Try.f10, cf_garmentlaw41_alive, Try.func10, by kernel_rfl, by kernel_rfl, by kernel_rfl, fun e h => by cases h⟩
theorem row22 : RowOk (22, 107) := ⟨Try.f22, cf_garmentlaw41_three, Try.func22, by kernel_rfl, by kernel_rfl, by kernel_rfl, fun e h => by cases h⟩
theorem row21 : RowOk (21, 111) := ⟨Try.f21, cf_garmentlaw41_box, Try.func21, by kernel_rfl, by kernel_rfl, by kernel_rfl, fun e h => by cases h⟩
theorem row11 : RowOk (11, 104) := ⟨Try.f11, cf_path_Travel, Try.func11, by kernel_rfl, by kernel_rfl, by kernel_rfl, fun e h => by cases h⟩
theorem row23 : RowOk (23, 112) := ⟨Try.f23, cf_path_valid, Try.func23, by kernel_rfl, by kernel_rfl, by kernel_rfl, fun e h => by cases h⟩
theorem row27 : RowOk (27, 114) := ⟨Try.f27, cf_path_check, Try.func27, by kernel_rfl, by kernel_rfl, by kernel_rfl, fun e h => by cases h⟩
theorem row20 : RowOk (20, 13) := ⟨Try.f20, cf_polygon_Check, Try.func20, by kernel_rfl, by kernel_rfl, by kernel_rfl, fun e h => by cases h⟩
theorem row33 : RowOk (33, 20) := ⟨Try.f33, cf_polygon_inside, Try.func33, by kernel_rfl, by kernel_rfl, by kernel_rfl, fun e h => by cases h⟩
theorem row34 : RowOk (34, 21) := ⟨Try.f34, cf_polygon_simple, Try.func34, by kernel_rfl, by kernel_rfl, by kernel_rfl, fun e h => by cases h⟩
theorem row42 : RowOk (42, 22) := ⟨Try.f42, cf_polygon_sides, Try.func42, by kernel_rfl, by kernel_rfl, by kernel_rfl, fun e h => by cases h⟩
theorem row43 : RowOk (43, 23) := ⟨Try.f43, cf_polygon_side_holds, Try.func43, by kernel_rfl, by kernel_rfl, by kernel_rfl, fun e h => by cases h⟩
theorem row48 : RowOk (48, 14) := ⟨Try.f48, cf_polygon_turn, Try.func48, by kernel_rfl, by kernel_rfl, by kernel_rfl, fun e h => by cases h⟩
theorem row49 : RowOk (49, 25) := ⟨Try.f49, cf_polygon_within, Try.func49, by kernel_rfl, by kernel_rfl, by kernel_rfl, fun e h => by cases h⟩
theorem row44 : RowOk (44, 24) := ⟨Try.f44, cf_polygon_side_meets, Try.func44, by kernel_rfl, by kernel_rfl, by kernel_rfl, fun e h => by cases h⟩
theorem row50 : RowOk (50, 26) := ⟨Try.f50, cf_polygon_side_divides, Try.func50, by kernel_rfl, by kernel_rfl, by kernel_rfl, fun e h => by cases h⟩
theorem row24 : RowOk (24, 113) := ⟨Try.f24, cf_path_distance, Try.func24, by kernel_rfl, by kernel_rfl, by kernel_rfl, fun e h => by cases h⟩
theorem row13 : RowOk (13, 108) := ⟨Try.f13, cf_path_Greedy, Try.func13, by kernel_rfl, by kernel_rfl, by kernel_rfl, fun e h => by cases h⟩
theorem row28 : RowOk (28, 115) := ⟨Try.f28, cf_slices_Contains_int_int, Try.func28, by kernel_rfl, by kernel_rfl, by kernel_rfl, fun e h => by cases h⟩
theorem row36 : RowOk (36, 116) := ⟨Try.f36, cf_slices_Index_int_int, Try.func36, by kernel_rfl, by kernel_rfl, by kernel_rfl, fun e h => by cases h⟩
theorem row15 : RowOk (15, 109) := ⟨Try.f15, cf_path_Improve, Try.func15, by kernel_rfl, by kernel_rfl, by kernel_rfl, fun e h => by cases h⟩
theorem row30 : RowOk (30, 62) := ⟨Try.f30, cf_slices_Clone_int_int, Try.func30, by kernel_rfl, by kernel_rfl, by kernel_rfl, fun e h => by cases h; exact ⟨by kernel_rfl, by kernel_rfl⟩⟩
theorem row31 : RowOk (31, 117) := ⟨Try.f31, cf_path_better, Try.func31, by kernel_rfl, by kernel_rfl, by kernel_rfl, fun e h => by cases h⟩
theorem row38 : RowOk (38, 118) := ⟨Try.f38, cf_path_gain, Try.func38, by kernel_rfl, by kernel_rfl, by kernel_rfl, fun e h => by cases h⟩
theorem row39 : RowOk (39, 119) := ⟨Try.f39, cf_slices_Reverse_int_int, Try.func39, by kernel_rfl, by kernel_rfl, by kernel_rfl, fun e h => by cases h⟩
theorem row40 : RowOk (40, 120) := ⟨Try.f40, cf_slices_Concat_int_int, Try.func40, by kernel_rfl, by kernel_rfl, by kernel_rfl, fun e h => by cases h⟩
theorem row47 : RowOk (47, 121) := ⟨Try.f47, cf_slices_Grow_int_int, Try.func47, by kernel_rfl, by kernel_rfl, by kernel_rfl, fun e h => by cases h⟩
theorem row17 : RowOk (17, 110) := ⟨Try.f17, cf_garmentref21_SameInts, Try.func17, by kernel_rfl, by kernel_rfl, by kernel_rfl, fun e h => by cases h⟩
theorem row7 : RowOk (7, 135) := ⟨Try.f7, cf_garmentlaw41_PathBegins, Try.func7, by kernel_rfl, by kernel_rfl, by kernel_rfl, fun e h => by cases h⟩
theorem table : Table Try.prog ρ G := fun fid g h => by
  have : ∀ x ∈ tab, RowOk x := by
    simp only [tab, List.forall_mem_cons]
    exact ⟨row9, row10, row22, row21, row11, row23, row27, row20, row33, row34, row42, row43, row48, row49, row44, row50, row24, row13, row28, row36, row15, row30, row31, row38, row39, row40, row47, row17, row7, by simp⟩
  exact this (fid, g) (lk_mem h)
end Pm
