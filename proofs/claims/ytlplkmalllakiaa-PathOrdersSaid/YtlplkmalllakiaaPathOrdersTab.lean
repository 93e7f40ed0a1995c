/- Parts of the proof of PathOrders, joined: Tab. -/
import Derived.Test.YtlplkmalllakiaaPathOrdersQ3
import Derived.Test.YtlplkmalllakiaaChecked
import Derived.KernelRfl
set_option linter.unusedVariables false
set_option linter.unusedSimpArgs false
/- The table: each function of the program and its reading. Written by a program of mine. -/
namespace Pm
open Go Go.Proofs
set_option maxRecDepth 20000
def tab : List (Nat × Nat) := [(9, 102), (10, 103), (22, 107), (21, 111), (11, 104), (23, 112), (27, 114), (20, 13), (33, 20), (34, 21), (42, 22), (43, 23), (48, 14), (49, 25), (44, 24), (50, 26), (24, 113), (13, 108), (28, 115), (36, 116), (15, 109), (30, 62), (31, 117), (38, 118), (39, 119), (40, 120), (47, 121), (17, 110), (25, 122), (29, 124), (37, 67), (45, 68), (46, 69), (51, 70), (53, 33), (52, 71), (54, 72), (35, 125), (26, 123), (19, 126), (4, 129), (14, 127), (16, 128), (32, 130), (41, 131)]
def lk : List (Nat × Nat) → Nat → Option Nat
  | [], _ => none
  | x :: l, n => cond (Nat.beq n x.1) (some x.2) (lk l n)
theorem lk_mem : ∀ {l : List (Nat × Nat)} {n g : Nat}, lk l n = some g → (n, g) ∈ l
  | [], _, _, h => by cases h
  | x :: l, n, g, h => by
    simp only [lk] at h
    cases hb : Nat.beq n x.1 with
    | true => rw [hb] at h; simp only [cond_true, Option.some.injEq] at h; rw [Nat.eq_of_beq_eq_true hb, ← h]; exact List.mem_cons_self
    | false => rw [hb] at h; exact List.mem_cons_of_mem _ (lk_mem h)
def ρ : Nat → Option Nat := lk tab
def RowOk (x : Nat × Nat) : Prop := ∃ fn f, Try.prog.funcs[x.1]? = some fn ∧ G x.2 = some f ∧ okFn Try.prog ρ fn f = true ∧ enterB Try.prog x.1 = true ∧ ∀ e, f.sp = some e → runF noC 0 f [.nil] = some [.own e []] ∧ runF noC 0 f [.nn e []] = some [.own e []]
theorem row9 : RowOk (9, 102) := ⟨Try.f9, cf_garmentref41_Light, Try.func9, by kernel_rfl, by kernel_rfl, by kernel_rfl, fun e h => by cases h⟩
theorem row10 : RowOk (10, 103) := ⟨Try.f10, cf_garmentlaw41_alive, Try.func10, by kernel_rfl, by kernel_rfl, by kernel_rfl, fun e h => by cases h⟩
theorem row22 : RowOk (22, 107) := ⟨Try.f22, cf_garmentlaw41_three, Try.func22, by kernel_rfl, by kernel_rfl, by kernel_rfl, fun e h => by cases h⟩
theorem row21 : RowOk (21, 111) := ⟨Try.f21, cf_garmentlaw41_box, Try.func21, by kernel_rfl, by kernel_rfl, by kernel_rfl, fun e h => by cases h⟩
theorem row11 : RowOk (11, 104) := ⟨Try.f11, cf_path_Travel, Try.func11, by kernel_rfl, by kernel_rfl, by kernel_rfl, fun e h => by cases h⟩
theorem row23 : RowOk (23, 112) := ⟨Try.f23, cf_path_valid, Try.func23, by kernel_rfl, by kernel_rfl, by kernel_rfl, fun e h => by cases h⟩
theorem row27 : RowOk (27, 114) := ⟨Try.f27, cf_path_check, Try.func27, by kernel_rfl, by kernel_rfl, by kernel_rfl, fun e h => by cases h⟩
theorem row20 : RowOk (20, 13) := ⟨Try.f20, cf_polygon_Check, Try.func20, by kernel_rfl, by kernel_rfl, by kernel_rfl, fun e h => by cases h⟩
theorem row33 : RowOk (33, 20) := ⟨Try.f33, cf_polygon_inside, Try.func33, by kernel_rfl, by kernel_rfl, by kernel_rfl, fun e h => by cases h⟩
theorem row34 : RowOk (34, 21) := ⟨Try.f34, cf_polygon_simple, Try.func34, by kernel_rfl, by kernel_rfl, by kernel_rfl, fun e h => by cases h⟩
theorem row42 : RowOk (42, 22) := ⟨Try.f42, cf_polygon_sides, Try.func42, by kernel_rfl, by kernel_rfl, by kernel_rfl, fun e h => by cases h⟩
theorem row43 : RowOk (43, 23) := ⟨Try.f43, cf_polygon_side_holds, Try.func43, by kernel_rfl, by kernel_rfl, by kernel_rfl, fun e h => by cases h⟩
theorem row48 : RowOk (48, 14) := ⟨Try.f48, cf_polygon_turn, Try.func48, by kernel_rfl, by kernel_rfl, by kernel_rfl, fun e h => by cases h⟩
theorem row49 : RowOk (49, 25) := ⟨Try.f49, cf_polygon_within, Try.func49, by kernel_rfl, by kernel_rfl, by kernel_rfl, fun e h => by cases h⟩
theorem row44 : RowOk (44, 24) := ⟨Try.f44, cf_polygon_side_meets, Try.func44, by kernel_rfl, by kernel_rfl, by kernel_rfl, fun e h => by cases h⟩
theorem row50 : RowOk (50, 26) := ⟨Try.f50, cf_polygon_side_divides, Try.func50, by kernel_rfl, by kernel_rfl, by kernel_rfl, fun e h => by cases h⟩
theorem row24 : RowOk (24, 113) := ⟨Try.f24, cf_path_distance, Try.func24, by kernel_rfl, by kernel_rfl, by kernel_rfl, fun e h => by cases h⟩
theorem row13 : RowOk (13, 108) := ⟨Try.f13, cf_path_Greedy, Try.func13, by kernel_rfl, by kernel_rfl, by kernel_rfl, fun e h => by cases h⟩
theorem row28 : RowOk (28, 115) := ⟨Try.f28, cf_slices_Contains_int_int, Try.func28, by kernel_rfl, by kernel_rfl, by kernel_rfl, fun e h => by cases h⟩
theorem row36 : RowOk (36, 116) := ⟨Try.f36, cf_slices_Index_int_int, Try.func36, by kernel_rfl, by kernel_rfl, by kernel_rfl, fun e h => by cases h⟩
theorem row15 : RowOk (15, 109) := ⟨Try.f15, cf_path_Improve, Try.func15, by kernel_rfl, by kernel_rfl, by kernel_rfl, fun e h => by cases h⟩
theorem row30 : RowOk (30, 62) := ⟨Try.f30, cf_slices_Clone_int_int, Try.func30, by kernel_rfl, by kernel_rfl, by kernel_rfl, fun e h => by cases h; exact ⟨by kernel_rfl, by kernel_rfl⟩⟩
theorem row31 : RowOk (31, 117) := ⟨Try.f31, cf_path_better, Try.func31, by kernel_rfl, by kernel_rfl, by kernel_rfl, fun e h => by cases h⟩
theorem row38 : RowOk (38, 118) := ⟨Try.f38, cf_path_gain, Try.func38, by kernel_rfl, by kernel_rfl, by kernel_rfl, fun e h => by cases h⟩
theorem row39 : RowOk (39, 119) := ⟨Try.f39, cf_slices_Reverse_int_int, Try.func39, by kernel_rfl, by kernel_rfl, by kernel_rfl, fun e h => by cases h⟩
theorem row40 : RowOk (40, 120) := ⟨Try.f40, cf_slices_Concat_int_int, Try.func40, by kernel_rfl, by kernel_rfl, by kernel_rfl, fun e h => by cases h⟩
theorem row47 : RowOk (47, 121) := ⟨Try.f47, cf_slices_Grow_int_int, Try.func47, by kernel_rfl, by kernel_rfl, by kernel_rfl, fun e h => by cases h⟩
theorem row17 : RowOk (17, 110) := ⟨Try.f17, cf_garmentref21_SameInts, Try.func17, by kernel_rfl, by kernel_rfl, by kernel_rfl, fun e h => by cases h⟩
theorem row25 : RowOk (25, 122) := ⟨Try.f25, cf_garmentref41_both, Try.func25, by kernel_rfl, by kernel_rfl, by kernel_rfl, fun e h => by cases h⟩
theorem row29 : RowOk (29, 124) := ⟨Try.f29, cf_garmentref41_check, Try.func29, by kernel_rfl, by kernel_rfl, by kernel_rfl, fun e h => by cases h⟩
theorem row37 : RowOk (37, 67) := ⟨Try.f37, cf_garmentref11_Check, Try.func37, by kernel_rfl, by kernel_rfl, by kernel_rfl, fun e h => by cases h⟩
theorem row45 : RowOk (45, 68) := ⟨Try.f45, cf_garmentref11_Within, Try.func45, by kernel_rfl, by kernel_rfl, by kernel_rfl, fun e h => by cases h⟩
theorem row46 : RowOk (46, 69) := ⟨Try.f46, cf_garmentref11_simple, Try.func46, by kernel_rfl, by kernel_rfl, by kernel_rfl, fun e h => by cases h⟩
theorem row51 : RowOk (51, 70) := ⟨Try.f51, cf_garmentref11_Between, Try.func51, by kernel_rfl, by kernel_rfl, by kernel_rfl, fun e h => by cases h⟩
theorem row53 : RowOk (53, 33) := ⟨Try.f53, cf_garmentref11_Cross, Try.func53, by kernel_rfl, by kernel_rfl, by kernel_rfl, fun e h => by cases h⟩
theorem row52 : RowOk (52, 71) := ⟨Try.f52, cf_garmentref11_meet, Try.func52, by kernel_rfl, by kernel_rfl, by kernel_rfl, fun e h => by cases h⟩
theorem row54 : RowOk (54, 72) := ⟨Try.f54, cf_garmentref11_sign, Try.func54, by kernel_rfl, by kernel_rfl, by kernel_rfl, fun e h => by cases h⟩
theorem row35 : RowOk (35, 125) := ⟨Try.f35, cf_garmentref41_whole, Try.func35, by kernel_rfl, by kernel_rfl, by kernel_rfl, fun e h => by cases h⟩
theorem row26 : RowOk (26, 123) := ⟨Try.f26, cf_garmentref41_travel, Try.func26, by kernel_rfl, by kernel_rfl, by kernel_rfl, fun e h => by cases h⟩
theorem row19 : RowOk (19, 126) := ⟨Try.f19, cf_garmentref41_Distance, Try.func19, by kernel_rfl, by kernel_rfl, by kernel_rfl, fun e h => by cases h⟩
theorem row4 : RowOk (4, 129) := ⟨Try.f4, cf_garmentlaw41_PathOrders, Try.func4, by kernel_rfl, by kernel_rfl, by kernel_rfl, fun e h => by cases h⟩
theorem row14 : RowOk (14, 127) := ⟨Try.f14, cf_garmentref41_Greedy, Try.func14, by kernel_rfl, by kernel_rfl, by kernel_rfl, fun e h => by cases h⟩
theorem row16 : RowOk (16, 128) := ⟨Try.f16, cf_garmentref41_Improve, Try.func16, by kernel_rfl, by kernel_rfl, by kernel_rfl, fun e h => by cases h⟩
theorem row32 : RowOk (32, 130) := ⟨Try.f32, cf_garmentref41_better, Try.func32, by kernel_rfl, by kernel_rfl, by kernel_rfl, fun e h => by cases h⟩
theorem row41 : RowOk (41, 131) := ⟨Try.f41, cf_garmentref41_Turned, Try.func41, by kernel_rfl, by kernel_rfl, by kernel_rfl, fun e h => by cases h⟩
theorem table : Table Try.prog ρ G := fun fid g h => by
  have : ∀ x ∈ tab, RowOk x := by
    simp only [tab, List.forall_mem_cons]
    exact ⟨row9, row10, row22, row21, row11, row23, row27, row20, row33, row34, row42, row43, row48, row49, row44, row50, row24, row13, row28, row36, row15, row30, row31, row38, row39, row40, row47, row17, row25, row29, row37, row45, row46, row51, row53, row52, row54, row35, row26, row19, row4, row14, row16, row32, row41, by simp⟩
  exact this (fid, g) (lk_mem h)
end Pm
