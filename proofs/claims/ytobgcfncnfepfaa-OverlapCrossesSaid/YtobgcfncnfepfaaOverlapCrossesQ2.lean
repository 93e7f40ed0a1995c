/- Parts of the proof of OverlapCrosses, joined: Eq, P1, P11, P11b, B0, C11a, C11b, R11a, C11c, L0, G1, G2, G3. -/
import Derived.Test.YtobgcfncnfepfaaOverlapCrossesQ1
import Derived.KernelRfl
set_option linter.unusedVariables false
set_option linter.unusedSimpArgs false
section
/- What each function comes to: written by a program of mine; the kernel checks each. -/
namespace Pm
open Go
set_option maxRecDepth 20000
set_option linter.unusedVariables false
theorem garmentlaw15_OverlapCrosses_st {r : R} (a0 : (List (Int × Int))) (a1 : Int) (h : (if (decide (((List.length a0 : Nat) : Int) > (40 : Int))) = true then ((callT CG [.v .bool] 138 []).bind fun (r1 : Bool) => (some [.val .bool r1])) else ((callT CG [.v .bool, .v tI] 146 [.val (.sl t0) a0, .val tI a1]).bind fun (r2 : Bool × Int) => ((callT CG [.v .bool, .v tI] 166 [.val (.sl t0) a0, .val tI a1]).bind fun (r3 : Bool × Int) => (if (r2.1 == r3.1) = true then (if (r2.2 == r3.2) = true then ((callT CG [.v .bool] 138 []).bind fun (r4 : Bool) => (some [.val .bool r4])) else (some [.val .bool false])) else (some [.val .bool false]))))) = some r) : CG 167 [.val (.sl t0) a0, .val tI a1] = some r := limC_run (f := cf_garmentlaw15_OverlapCrosses) (by kernel_rfl) (by kernel_rfl) (Eq.trans (by kernel_rfl) h)
theorem garmentlaw15_exampleHolds_st {r : R}  (h : ((callT CG [.o t0] 144 [.val tI (0 : Int), .val tI (0 : Int), .val tI (4 : Int), .val tI (4 : Int)]).bind fun (r1 : (List (Int × Int))) => ((callT CG [.o t0] 144 [.val tI (3 : Int), .val tI (3 : Int), .val tI (6 : Int), .val tI (6 : Int)]).bind fun (r2 : (List (Int × Int))) => ((callT CG [.v .bool, .v tI] 139 [.val (.sl t0) r1, .val (.sl t0) r2]).bind fun (r3 : Bool × Int) => ((callT CG [.o t0] 144 [.val tI (4 : Int), .val tI (0 : Int), .val tI (8 : Int), .val tI (4 : Int)]).bind fun (r4 : (List (Int × Int))) => ((callT CG [.v .bool, .v tI] 139 [.val (.sl t0) r1, .val (.sl t0) r4]).bind fun (r5 : Bool × Int) => ((callT CG [.o t0] 144 [.val tI (4 : Int), .val tI (4 : Int), .val tI (5 : Int), .val tI (5 : Int)]).bind fun (r6 : (List (Int × Int))) => ((callT CG [.v .bool, .v tI] 141 [.val (.sl t0) r1, .val (.sl t0) r6]).bind fun (r7 : Bool × Int) => ((callT CG [.o t0] 144 [.val tI (5 : Int), .val tI (0 : Int), .val tI (6 : Int), .val tI (1 : Int)]).bind fun (r8 : (List (Int × Int))) => ((callT CG [.v .bool, .v tI] 141 [.val (.sl t0) r1, .val (.sl t0) r8]).bind fun (r9 : Bool × Int) => ((callT CG [.v .bool, .v tI] 145 [.val (.sl t0) ([((0 : Int), (0 : Int)), ((4 : Int), (0 : Int)), ((0 : Int), (4 : Int))] : List (Int × Int)), .val t8 ((2 : Int), ((2 : Int), ((2 : Int), (2 : Int))))]).bind fun (r10 : Bool × Int) => ((callT CG [.v .bool, .v tI] 145 [.val (.sl t0) ([((0 : Int), (0 : Int)), ((4 : Int), (0 : Int)), ((0 : Int), (4 : Int))] : List (Int × Int)), .val t8 ((1 : Int), ((2 : Int), ((3 : Int), (2 : Int))))]).bind fun (r11 : Bool × Int) => ((callT CG [.v .bool, .v tI] 146 [.val (.sl t0) ([((0 : Int), (0 : Int)), ((4 : Int), (0 : Int)), ((0 : Int), (4 : Int))] : List (Int × Int)), .val tI (1 : Int)]).bind fun (r12 : Bool × Int) => ((callT CG [.v .bool, .v tI] 146 [.val (.sl t0) ([((0 : Int), (0 : Int)), ((4 : Int), (0 : Int)), ((0 : Int), (4 : Int))] : List (Int × Int)), .val tI (0 : Int)]).bind fun (r13 : Bool × Int) => (if (0 ≤ (2 : Int) ∧ (2 : Int) ≤ ((List.length r1 : Nat) : Int)) then ((callT CG [.v .bool, .v tI] 139 [.val (.sl t0) r1, .val (.sl t0) (List.take (Int.toNat (2 : Int)) r1)]).bind fun (r14 : Bool × Int) => (if r3.1 = true then (if (r3.2 == (0 : Int)) = true then (if (!r5.1) = true then (if (r5.2 == (0 : Int)) = true then (if r7.1 = true then (if (r7.2 == (0 : Int)) = true then (if (!r9.1) = true then (if (r9.2 == (0 : Int)) = true then (if (!r10.1) = true then (if (r10.2 == (0 : Int)) = true then (if r11.1 = true then (if (r11.2 == (0 : Int)) = true then (if r12.1 = true then (if (r12.2 == (0 : Int)) = true then (if (!r13.1) = true then (if (r13.2 == (0 : Int)) = true then (some [.val .bool (r14.2 == (11 : Int))]) else (some [.val .bool false])) else (some [.val .bool false])) else (some [.val .bool false])) else (some [.val .bool false])) else (some [.val .bool false])) else (some [.val .bool false])) else (some [.val .bool false])) else (some [.val .bool false])) else (some [.val .bool false])) else (some [.val .bool false])) else (some [.val .bool false])) else (some [.val .bool false])) else (some [.val .bool false])) else (some [.val .bool false])) else (some [.val .bool false])) else (some [.val .bool false]))) else none)))))))))))))) = some r) : CG 138 [] = some r := limC_run (f := cf_garmentlaw15_exampleHolds) (by kernel_rfl) (by kernel_rfl) (Eq.trans (by kernel_rfl) h)
theorem garmentlaw15_rect_st {r : R} (a0 : Int) (a1 : Int) (a2 : Int) (a3 : Int) (h : (some [.own t0 ([(a0, a1), (a2, a1), (a2, a3), (a0, a3)] : List (Int × Int))]) = some r) : CG 144 [.val tI a0, .val tI a1, .val tI a2, .val tI a3] = some r := limC_run (f := cf_garmentlaw15_rect) (by kernel_rfl) (by kernel_rfl) (Eq.trans (by kernel_rfl) h)
noncomputable def garmentref11_Check_lp1 (C : CallF) (a0 : (List (Int × Int))) (v0 : (List (Int × Int))) (v1 : Int) : Option R := lpAt C cf_garmentref11_Check [.val (.sl t0) a0] [1, 1, 1, 0, 1, 0] [.d (.val (.sl t0) v0), .d (.undef), .d (.undef), .d (.val tI v1), .d (.undef), .d (.undef), .d (.undef), .d (.undef), .d (.undef), .d (.undef), .d (.undef), .d (.undef), .d (.undef), .d (.undef), .d (.undef), .d (.undef), .d (.undef), .d (.undef), .d (.undef), .d (.undef), .d (.undef), .d (.undef), .d (.undef), .d (.undef), .d (.undef)] (ofL [])
theorem garmentref11_Check_st {r : R} (a0 : (List (Int × Int))) (h : (if (decide (((List.length a0 : Nat) : Int) > (40 : Int))) = true then (some [.val tI (5 : Int)]) else (if (decide (((List.length a0 : Nat) : Int) < (3 : Int))) = true then (some [.val tI (11 : Int)]) else (garmentref11_Check_lp1 CG a0 a0 (0 : Int)))) = some r) : CG 67 [.val (.sl t0) a0] = some r := limC_run (f := cf_garmentref11_Check) (by kernel_rfl) (by kernel_rfl) (Eq.trans (by kernel_rfl) h)
theorem garmentref11_Check_lp1_st {C : CallF} {r : R} (a0 : (List (Int × Int))) (v0 : (List (Int × Int))) (v1 : Int) (h : (if (decide (v1 < ((List.length v0 : Nat) : Int))) = true then (if (0 ≤ v1 ∧ v1 < ((List.length v0 : Nat) : Int)) then ((callT C [.v .bool] 68 [.val t0 (List.getD v0 (Int.toNat v1) ((0 : Int), (0 : Int))), .val tI (1048576 : Int)]).bind fun (r1 : Bool) => (if (!r1) = true then (some [.val tI (3 : Int)]) else (garmentref11_Check_lp1 C a0 v0 (wr .i64 (v1 + (1 : Int)))))) else none) else ((callT C [.v .bool] 69 [.val (.sl t0) v0]).bind fun (r2 : Bool) => (if (!r2) = true then (some [.val tI (11 : Int)]) else (some [.val tI (0 : Int)])))) = some r) : garmentref11_Check_lp1 C a0 v0 v1 = some r := lpAt_of (Eq.trans (by kernel_rfl) h)
theorem garmentref11_Cross_st {r : R} (a0 : (Int × Int)) (a1 : (Int × Int)) (a2 : (Int × Int)) (h : (some [.val tI (wr .i64 ((wr .i64 ((wr .i64 (a1.1 - a0.1)) * (wr .i64 (a2.2 - a0.2)))) - (wr .i64 ((wr .i64 (a1.2 - a0.2)) * (wr .i64 (a2.1 - a0.1))))))]) = some r) : CG 33 [.val t0 a0, .val t0 a1, .val t0 a2] = some r := limC_run (f := cf_garmentref11_Cross) (by kernel_rfl) (by kernel_rfl) (Eq.trans (by kernel_rfl) h)
theorem garmentref11_Within_st {r : R} (a0 : (Int × Int)) (a1 : Int) (h : (if (decide (a0.1 ≥ (wr .i64 (0 - a1)))) = true then (if (decide (a0.1 ≤ a1)) = true then (if (decide (a0.2 ≥ (wr .i64 (0 - a1)))) = true then (some [.val .bool (decide (a0.2 ≤ a1))]) else (some [.val .bool false])) else (some [.val .bool false])) else (some [.val .bool false])) = some r) : CG 68 [.val t0 a0, .val tI a1] = some r := limC_run (f := cf_garmentref11_Within) (by kernel_rfl) (by kernel_rfl) (Eq.trans (by kernel_rfl) h)
noncomputable def garmentref11_simple_lp1 (C : CallF) (a0 : (List (Int × Int))) (v0 : (List (Int × Int))) (v1 : Int) (v2 : Int) : Option R := lpAt C cf_garmentref11_simple [.val (.sl t0) a0] [1, 1, 0, 1, 0] [.d (.val (.sl t0) v0), .d (.undef), .d (.undef), .d (.val tI v1), .d (.val tI v2), .d (.undef), .d (.undef), .d (.undef), .d (.undef), .d (.undef), .d (.undef), .d (.undef), .d (.undef), .d (.undef), .d (.undef), .d (.undef), .d (.undef), .d (.undef), .d (.undef), .d (.undef), .d (.undef), .d (.undef), .d (.undef), .d (.undef), .d (.undef), .d (.undef), .d (.undef), .d (.undef), .d (.undef), .d (.undef), .d (.undef), .d (.undef), .d (.undef), .d (.undef), .d (.undef), .d (.undef), .d (.undef), .d (.undef), .d (.undef), .d (.undef), .d (.undef), .d (.undef), .d (.undef), .d (.undef), .d (.undef), .d (.undef), .d (.undef), .d (.undef), .d (.undef), .d (.undef), .d (.undef), .d (.undef), .d (.undef), .d (.undef), .d (.undef), .d (.undef), .d (.undef), .d (.undef), .d (.undef), .d (.undef), .d (.undef), .d (.undef), .d (.undef), .d (.undef), .d (.undef), .d (.undef), .d (.undef), .d (.undef), .d (.undef), .d (.undef), .d (.undef), .d (.undef), .d (.undef), .d (.undef), .d (.undef), .d (.undef), .d (.undef), .d (.undef)] (ofL [])
noncomputable def garmentref11_simple_lp2 (C : CallF) (a0 : (List (Int × Int))) (v0 : (List (Int × Int))) (v1 : Int) (v2 : Int) (v3 : Int) (v4 : (Int × Int)) (v5 : (Int × Int)) : Option R := lpAt C cf_garmentref11_simple [.val (.sl t0) a0] [1, 1, 0, 1, 0, 0, 1, 0, 0, 1, 1, 1, 1, 0] [.d (.val (.sl t0) v0), .d (.undef), .d (.undef), .d (.val tI v1), .d (.val tI v2), .d (.ptr 200000 0 []), .d (.ptr 200001 0 []), .d (.undef), .d (.val tI v3), .d (.undef), .d (.undef), .d (.undef), .d (.undef), .d (.undef), .d (.undef), .d (.undef), .d (.undef), .d (.undef), .d (.undef), .d (.undef), .d (.undef), .d (.undef), .d (.undef), .d (.undef), .d (.undef), .d (.undef), .d (.undef), .d (.undef), .d (.undef), .d (.undef), .d (.undef), .d (.undef), .d (.undef), .d (.undef), .d (.undef), .d (.undef), .d (.undef), .d (.undef), .d (.undef), .d (.undef), .d (.undef), .d (.undef), .d (.undef), .d (.undef), .d (.undef), .d (.undef), .d (.undef), .d (.undef), .d (.undef), .d (.undef), .d (.undef), .d (.undef), .d (.undef), .d (.undef), .d (.undef), .d (.undef), .d (.undef), .d (.undef), .d (.undef), .d (.undef), .d (.undef), .d (.undef), .d (.undef), .d (.undef), .d (.undef), .d (.undef), .d (.undef), .d (.undef), .d (.undef), .d (.undef), .d (.undef), .d (.undef), .d (.undef), .d (.undef), .d (.undef), .d (.undef), .d (.undef), .d (.undef)] (ofL [(200000, .box t0 (.val t0 v4)), (200001, .box t0 (.val t0 v5))])
theorem garmentref11_simple_st {r : R} (a0 : (List (Int × Int))) (h : (garmentref11_simple_lp1 CG a0 a0 ((List.length a0 : Nat) : Int) (0 : Int)) = some r) : CG 69 [.val (.sl t0) a0] = some r := limC_run (f := cf_garmentref11_simple) (by kernel_rfl) (by kernel_rfl) (Eq.trans (by kernel_rfl) h)
theorem garmentref11_simple_lp1_st {C : CallF} {r : R} (a0 : (List (Int × Int))) (v0 : (List (Int × Int))) (v1 : Int) (v2 : Int) (h : (if (decide (v2 < v1)) = true then (if (0 ≤ v2 ∧ v2 < ((List.length v0 : Nat) : Int)) then (if (v1 ≠ 0) then (if (0 ≤ (Int.tmod (wr .i64 (v2 + (1 : Int))) v1) ∧ (Int.tmod (wr .i64 (v2 + (1 : Int))) v1) < ((List.length v0 : Nat) : Int)) then (if (v1 ≠ 0) then (if (0 ≤ (Int.tmod (wr .i64 (v2 + (2 : Int))) v1) ∧ (Int.tmod (wr .i64 (v2 + (2 : Int))) v1) < ((List.length v0 : Nat) : Int)) then (if (((List.getD v0 (Int.toNat v2) ((0 : Int), (0 : Int))).1 == (List.getD v0 (Int.toNat (Int.tmod (wr .i64 (v2 + (1 : Int))) v1)) ((0 : Int), (0 : Int))).1) && ((List.getD v0 (Int.toNat v2) ((0 : Int), (0 : Int))).2 == (List.getD v0 (Int.toNat (Int.tmod (wr .i64 (v2 + (1 : Int))) v1)) ((0 : Int), (0 : Int))).2)) = true then (some [.val .bool false]) else ((callT C [.v .bool] 70 [.val t0 (List.getD v0 (Int.toNat v2) ((0 : Int), (0 : Int))), .val t0 (List.getD v0 (Int.toNat (Int.tmod (wr .i64 (v2 + (1 : Int))) v1)) ((0 : Int), (0 : Int))), .val t0 (List.getD v0 (Int.toNat (Int.tmod (wr .i64 (v2 + (2 : Int))) v1)) ((0 : Int), (0 : Int)))]).bind fun (r1 : Bool) => (if r1 = true then (some [.val .bool false]) else ((callT C [.v .bool] 70 [.val t0 (List.getD v0 (Int.toNat (Int.tmod (wr .i64 (v2 + (1 : Int))) v1)) ((0 : Int), (0 : Int))), .val t0 (List.getD v0 (Int.toNat (Int.tmod (wr .i64 (v2 + (2 : Int))) v1)) ((0 : Int), (0 : Int))), .val t0 (List.getD v0 (Int.toNat v2) ((0 : Int), (0 : Int)))]).bind fun (r2 : Bool) => (if r2 = true then (some [.val .bool false]) else (garmentref11_simple_lp2 C a0 v0 v1 v2 (wr .i64 (v2 + (2 : Int))) (List.getD v0 (Int.toNat v2) ((0 : Int), (0 : Int))) (List.getD v0 (Int.toNat (Int.tmod (wr .i64 (v2 + (1 : Int))) v1)) ((0 : Int), (0 : Int))))))))) else none) else none) else none) else none) else none) else (some [.val .bool true])) = some r) : garmentref11_simple_lp1 C a0 v0 v1 v2 = some r := lpAt_of (Eq.trans (by kernel_rfl) h)
theorem garmentref11_simple_lp2_st {C : CallF} {r : R} (a0 : (List (Int × Int))) (v0 : (List (Int × Int))) (v1 : Int) (v2 : Int) (v3 : Int) (v4 : (Int × Int)) (v5 : (Int × Int)) (h : (if (decide (v3 < v1)) = true then (if (v1 ≠ 0) then (if ((Int.tmod (wr .i64 (v3 + (1 : Int))) v1) != v2) = true then (if (0 ≤ v3 ∧ v3 < ((List.length v0 : Nat) : Int)) then (if (v1 ≠ 0) then (if (0 ≤ (Int.tmod (wr .i64 (v3 + (1 : Int))) v1) ∧ (Int.tmod (wr .i64 (v3 + (1 : Int))) v1) < ((List.length v0 : Nat) : Int)) then ((callT C [.v .bool] 71 [.val t0 v4, .val t0 v5, .val t0 (List.getD v0 (Int.toNat v3) ((0 : Int), (0 : Int))), .val t0 (List.getD v0 (Int.toNat (Int.tmod (wr .i64 (v3 + (1 : Int))) v1)) ((0 : Int), (0 : Int)))]).bind fun (r1 : Bool) => (if r1 = true then (some [.val .bool false]) else (garmentref11_simple_lp2 C a0 v0 v1 v2 (wr .i64 (v3 + (1 : Int))) v4 v5))) else none) else none) else none) else (garmentref11_simple_lp2 C a0 v0 v1 v2 (wr .i64 (v3 + (1 : Int))) v4 v5)) else none) else (garmentref11_simple_lp1 C a0 v0 v1 (wr .i64 (v2 + (1 : Int))))) = some r) : garmentref11_simple_lp2 C a0 v0 v1 v2 v3 v4 v5 = some r := lpAt_of (Eq.trans (by kernel_rfl) h)
theorem garmentref11_Between_st {r : R} (a0 : (Int × Int)) (a1 : (Int × Int)) (a2 : (Int × Int)) (h : ((callT CG [.v tI] 33 [.val t0 a0, .val t0 a1, .val t0 a2]).bind fun (r1 : Int) => (if (r1 == (0 : Int)) = true then (if (decide ((if a1.1 < a0.1 then a1.1 else a0.1) ≤ a2.1)) = true then (if (decide (a2.1 ≤ (if a1.1 > a0.1 then a1.1 else a0.1))) = true then (if (decide ((if a1.2 < a0.2 then a1.2 else a0.2) ≤ a2.2)) = true then (some [.val .bool (decide (a2.2 ≤ (if a1.2 > a0.2 then a1.2 else a0.2)))]) else (some [.val .bool false])) else (some [.val .bool false])) else (some [.val .bool false])) else (some [.val .bool false]))) = some r) : CG 70 [.val t0 a0, .val t0 a1, .val t0 a2] = some r := limC_run (f := cf_garmentref11_Between) (by kernel_rfl) (by kernel_rfl) (Eq.trans (by kernel_rfl) h)
theorem garmentref11_meet_st {r : R} (a0 : (Int × Int)) (a1 : (Int × Int)) (a2 : (Int × Int)) (a3 : (Int × Int)) (h : ((callT CG [.v .bool] 70 [.val t0 a0, .val t0 a1, .val t0 a2]).bind fun (r1 : Bool) => (if r1 = true then (some [.val .bool true]) else ((callT CG [.v .bool] 70 [.val t0 a0, .val t0 a1, .val t0 a3]).bind fun (r2 : Bool) => (if r2 = true then (some [.val .bool true]) else ((callT CG [.v .bool] 70 [.val t0 a2, .val t0 a3, .val t0 a0]).bind fun (r3 : Bool) => (if r3 = true then (some [.val .bool true]) else ((callT CG [.v .bool] 70 [.val t0 a2, .val t0 a3, .val t0 a1]).bind fun (r4 : Bool) => (if r4 = true then (some [.val .bool true]) else ((callT CG [.v tI] 33 [.val t0 a0, .val t0 a1, .val t0 a2]).bind fun (r5 : Int) => ((callT CG [.v tI] 72 [.val tI r5]).bind fun (r6 : Int) => ((callT CG [.v tI] 33 [.val t0 a0, .val t0 a1, .val t0 a3]).bind fun (r7 : Int) => ((callT CG [.v tI] 72 [.val tI r7]).bind fun (r8 : Int) => (if (decide ((wr .i64 (r6 * r8)) < (0 : Int))) = true then ((callT CG [.v tI] 33 [.val t0 a2, .val t0 a3, .val t0 a0]).bind fun (r9 : Int) => ((callT CG [.v tI] 72 [.val tI r9]).bind fun (r10 : Int) => ((callT CG [.v tI] 33 [.val t0 a2, .val t0 a3, .val t0 a1]).bind fun (r11 : Int) => ((callT CG [.v tI] 72 [.val tI r11]).bind fun (r12 : Int) => (some [.val .bool (decide ((wr .i64 (r10 * r12)) < (0 : Int)))]))))) else (some [.val .bool false])))))))))))))) = some r) : CG 71 [.val t0 a0, .val t0 a1, .val t0 a2, .val t0 a3] = some r := limC_run (f := cf_garmentref11_meet) (by kernel_rfl) (by kernel_rfl) (Eq.trans (by kernel_rfl) h)
theorem garmentref11_sign_st {r : R} (a0 : Int) (h : (if (decide (a0 > (0 : Int))) = true then (some [.val tI (1 : Int)]) else (if (decide (a0 < (0 : Int))) = true then (some [.val tI ((-1) : Int)]) else (some [.val tI (0 : Int)]))) = some r) : CG 72 [.val tI a0] = some r := limC_run (f := cf_garmentref11_sign) (by kernel_rfl) (by kernel_rfl) (Eq.trans (by kernel_rfl) h)
noncomputable def garmentref15_Crosses_lp1 (C : CallF) (a0 : (List (Int × Int))) (a1 : Int) (v0 : (List (Int × Int))) (v1 : Int) (v2 : Int) (v3 : Int) (v4 : Int) : Option R := lpAt C cf_garmentref15_Crosses [.val (.sl t0) a0, .val tI a1] [1, 1, 1, 0, 1, 0] [.d (.val (.sl t0) v0), .d (.val tI v1), .d (.undef), .d (.undef), .d (.undef), .d (.undef), .d (.undef), .d (.val tI v2), .d (.val tI v3), .d (.val tI v4), .d (.undef), .d (.undef), .d (.undef), .d (.undef), .d (.undef), .d (.undef), .d (.undef), .d (.undef), .d (.undef), .d (.undef), .d (.undef), .d (.undef), .d (.undef), .d (.undef), .d (.undef), .d (.undef), .d (.undef), .d (.undef), .d (.undef), .d (.undef), .d (.undef), .d (.undef), .d (.undef), .d (.undef), .d (.undef), .d (.undef), .d (.undef), .d (.undef), .d (.undef), .d (.undef), .d (.undef), .d (.undef), .d (.undef), .d (.undef), .d (.undef), .d (.undef), .d (.undef), .d (.undef), .d (.undef), .d (.undef), .d (.undef)] (ofL [])
theorem garmentref15_Crosses_st {r : R} (a0 : (List (Int × Int))) (a1 : Int) (h : ((callT CG [.v tI] 67 [.val (.sl t0) a0]).bind fun (r1 : Int) => (if (r1 != (0 : Int)) = true then (some [.val .bool false, .val tI r1]) else (if (0 ≤ (0 : Int) ∧ (0 : Int) < ((List.length a0 : Nat) : Int)) then (if (0 ≤ (0 : Int) ∧ (0 : Int) < ((List.length a0 : Nat) : Int)) then (garmentref15_Crosses_lp1 CG a0 a1 a0 a1 (List.getD a0 (Int.toNat (0 : Int)) ((0 : Int), (0 : Int))).1 (List.getD a0 (Int.toNat (0 : Int)) ((0 : Int), (0 : Int))).1 (1 : Int)) else none) else none))) = some r) : CG 166 [.val (.sl t0) a0, .val tI a1] = some r := limC_run (f := cf_garmentref15_Crosses) (by kernel_rfl) (by kernel_rfl) (Eq.trans (by kernel_rfl) h)
theorem garmentref15_Crosses_lp1_st {C : CallF} {r : R} (a0 : (List (Int × Int))) (a1 : Int) (v0 : (List (Int × Int))) (v1 : Int) (v2 : Int) (v3 : Int) (v4 : Int) (h : (if (decide (v4 < ((List.length v0 : Nat) : Int))) = true then (if (0 ≤ v4 ∧ v4 < ((List.length v0 : Nat) : Int)) then (if (0 ≤ v4 ∧ v4 < ((List.length v0 : Nat) : Int)) then (garmentref15_Crosses_lp1 C a0 a1 v0 v1 (if (List.getD v0 (Int.toNat v4) ((0 : Int), (0 : Int))).1 < v2 then (List.getD v0 (Int.toNat v4) ((0 : Int), (0 : Int))).1 else v2) (if (List.getD v0 (Int.toNat v4) ((0 : Int), (0 : Int))).1 > v3 then (List.getD v0 (Int.toNat v4) ((0 : Int), (0 : Int))).1 else v3) (wr .i64 (v4 + (1 : Int)))) else none) else none) else (if (decide (v2 < v1)) = true then (some [.val .bool (decide (v1 < v3)), .val tI (0 : Int)]) else (some [.val .bool false, .val tI (0 : Int)]))) = some r) : garmentref15_Crosses_lp1 C a0 a1 v0 v1 v2 v3 v4 = some r := lpAt_of (Eq.trans (by kernel_rfl) h)
theorem overlap_Overlap_st {r : R} (a0 : (List (Int × Int))) (a1 : (List (Int × Int))) (h : ((callT CG [.o (.sl t0), .o (.sl t0), .v tI] 147 [.val (.sl t0) a0, .val (.sl t0) a1]).bind fun (r1 : (List (List (Int × Int))) × (List (List (Int × Int))) × Int) => (if (r1.2.2 != (0 : Int)) = true then (some [.val .bool false, .val tI r1.2.2]) else ((callT CG [.v .bool] 148 [.val (.sl (.sl t0)) r1.1, .val (.sl (.sl t0)) r1.2.1, .val .bool true]).bind fun (r2 : Bool) => (some [.val .bool r2, .val tI (0 : Int)])))) = some r) : CG 139 [.val (.sl t0) a0, .val (.sl t0) a1] = some r := limC_run (f := cf_overlap_Overlap) (by kernel_rfl) (by kernel_rfl) (Eq.trans (by kernel_rfl) h)
theorem overlap_Touch_st {r : R} (a0 : (List (Int × Int))) (a1 : (List (Int × Int))) (h : ((callT CG [.o (.sl t0), .o (.sl t0), .v tI] 147 [.val (.sl t0) a0, .val (.sl t0) a1]).bind fun (r1 : (List (List (Int × Int))) × (List (List (Int × Int))) × Int) => (if (r1.2.2 != (0 : Int)) = true then (some [.val .bool false, .val tI r1.2.2]) else ((callT CG [.v .bool] 148 [.val (.sl (.sl t0)) r1.1, .val (.sl (.sl t0)) r1.2.1, .val .bool true]).bind fun (r2 : Bool) => (if (!r2) = true then ((callT CG [.v .bool] 148 [.val (.sl (.sl t0)) r1.1, .val (.sl (.sl t0)) r1.2.1, .val .bool false]).bind fun (r3 : Bool) => (some [.val .bool r3, .val tI (0 : Int)])) else (some [.val .bool false, .val tI (0 : Int)]))))) = some r) : CG 141 [.val (.sl t0) a0, .val (.sl t0) a1] = some r := limC_run (f := cf_overlap_Touch) (by kernel_rfl) (by kernel_rfl) (Eq.trans (by kernel_rfl) h)
theorem overlap_Crosses_st {r : R} (a0 : (List (Int × Int))) (a1 : Int) (h : ((callT CG [.v t8, .v tI] 61 [.val (.sl t0) a0]).bind fun (r1 : (Int × (Int × (Int × Int))) × Int) => (if (r1.2 != (0 : Int)) = true then (some [.val .bool false, .val tI r1.2]) else (if (decide (r1.1.1 < a1)) = true then (some [.val .bool (decide (a1 < (wr .i64 (r1.1.1 + r1.1.2.2.1)))), .val tI (0 : Int)]) else (some [.val .bool false, .val tI (0 : Int)])))) = some r) : CG 146 [.val (.sl t0) a0, .val tI a1] = some r := limC_run (f := cf_overlap_Crosses) (by kernel_rfl) (by kernel_rfl) (Eq.trans (by kernel_rfl) h)
theorem overlap_Hits_st {r : R} (a0 : (List (Int × Int))) (a1 : (Int × (Int × (Int × Int)))) (h : ((callT CG [.v tI] 13 [.val (.sl t0) a0]).bind fun (r1 : Int) => (if (r1 != (0 : Int)) = true then (some [.val .bool false, .val tI r1]) else (if (decide (a1.2.2.1 < (1 : Int))) = true then (some [.val .bool false, .val tI (0 : Int)]) else (if (decide (a1.2.2.2 < (1 : Int))) = true then (some [.val .bool false, .val tI (0 : Int)]) else ((callT CG [.v tI, .v tI, .v .bool] 150 [.val tI a1.1, .val tI a1.2.2.1]).bind fun (r2 : Int × Int × Bool) => ((callT CG [.v tI, .v tI, .v .bool] 150 [.val tI a1.2.1, .val tI a1.2.2.2]).bind fun (r3 : Int × Int × Bool) => (if (!r2.2.2) = true then (some [.val .bool false, .val tI (0 : Int)]) else (if (!r3.2.2) = true then (some [.val .bool false, .val tI (0 : Int)]) else ((callT CG [.v .bool, .v tI] 139 [.val (.sl t0) a0, .val (.sl t0) ([(r2.1, r3.1), (r2.2.1, r3.1), (r2.2.1, r3.2.1), (r2.1, r3.2.1)] : List (Int × Int))]).bind fun (r4 : Bool × Int) => (some [.val .bool r4.1, .val tI r4.2])))))))))) = some r) : CG 145 [.val (.sl t0) a0, .val t8 a1] = some r := limC_run (f := cf_overlap_Hits) (by kernel_rfl) (by kernel_rfl) (Eq.trans (by kernel_rfl) h)
theorem overlap_split_st {r : R} (a0 : (List (Int × Int))) (a1 : (List (Int × Int))) (h : ((callT CG [.o (.sl t0), .v tI] 6 [.val (.sl t0) a0]).bind fun (r1 : (List (List (Int × Int))) × Int) => (if (r1.2 != (0 : Int)) = true then (some [.own (.sl t0) ([] : List (List (Int × Int))), .own (.sl t0) ([] : List (List (Int × Int))), .val tI r1.2]) else ((callT CG [.o (.sl t0), .v tI] 6 [.val (.sl t0) a1]).bind fun (r2 : (List (List (Int × Int))) × Int) => (some [.own (.sl t0) r1.1, .own (.sl t0) r2.1, .val tI r2.2])))) = some r) : CG 147 [.val (.sl t0) a0, .val (.sl t0) a1] = some r := limC_run (f := cf_overlap_split) (by kernel_rfl) (by kernel_rfl) (Eq.trans (by kernel_rfl) h)
noncomputable def overlap_meet_lp1 (C : CallF) (a0 : (List (List (Int × Int)))) (a1 : (List (List (Int × Int)))) (a2 : Bool) (v0 : (List (List (Int × Int)))) (v1 : Bool) (v2 : (List (List (Int × Int)))) (v3 : Int) (v4 : Int) : Option R := lpAt C cf_overlap_meet [.val (.sl (.sl t0)) a0, .val (.sl (.sl t0)) a1, .val .bool a2] [1, 0, 1, 0] [.d (.undef), .d (.val (.sl (.sl t0)) v0), .d (.val .bool v1), .d (.undef), .d (.undef), .d (.undef), .d (.undef), .d (.undef), .d (.undef), .d (.undef), .d (.undef), .d (.val (.sl (.sl t0)) v2), .d (.val tI v3), .d (.val tI v4), .d (.undef), .d (.undef), .d (.undef), .d (.undef), .d (.undef), .d (.undef), .d (.undef), .d (.undef), .d (.undef), .d (.undef), .d (.undef), .d (.undef), .d (.undef), .d (.undef), .d (.undef), .d (.undef), .d (.undef), .d (.undef), .d (.undef), .d (.undef), .d (.undef), .d (.undef), .d (.undef)] (ofL [])
noncomputable def overlap_meet_lp2 (C : CallF) (a0 : (List (List (Int × Int)))) (a1 : (List (List (Int × Int)))) (a2 : Bool) (v0 : (List (List (Int × Int)))) (v1 : Bool) (v2 : (List (Int × Int))) (v3 : (List (List (Int × Int)))) (v4 : Int) (v5 : Int) (v6 : (List (List (Int × Int)))) (v7 : Int) (v8 : Int) : Option R := lpAt C cf_overlap_meet [.val (.sl (.sl t0)) a0, .val (.sl (.sl t0)) a1, .val .bool a2] [1, 0, 1, 0, 0, 1, 1, 0, 0, 1, 1, 0] [.d (.undef), .d (.val (.sl (.sl t0)) v0), .d (.val .bool v1), .d (.undef), .d (.undef), .d (.undef), .d (.undef), .d (.undef), .d (.val (.sl t0) v2), .d (.undef), .d (.undef), .d (.val (.sl (.sl t0)) v3), .d (.val tI v4), .d (.val tI v5), .d (.undef), .d (.undef), .d (.undef), .d (.val (.sl (.sl t0)) v6), .d (.val tI v7), .d (.val tI v8), .d (.undef), .d (.undef), .d (.undef), .d (.undef), .d (.undef), .d (.undef), .d (.undef), .d (.undef), .d (.undef), .d (.undef), .d (.undef), .d (.undef), .d (.undef), .d (.undef), .d (.undef), .d (.undef), .d (.undef)] (ofL [])
theorem overlap_meet_st {r : R} (a0 : (List (List (Int × Int)))) (a1 : (List (List (Int × Int)))) (a2 : Bool) (h : (overlap_meet_lp1 CG a0 a1 a2 a1 a2 a0 ((List.length a0 : Nat) : Int) (0 : Int)) = some r) : CG 148 [.val (.sl (.sl t0)) a0, .val (.sl (.sl t0)) a1, .val .bool a2] = some r := limC_run (f := cf_overlap_meet) (by kernel_rfl) (by kernel_rfl) (Eq.trans (by kernel_rfl) h)
theorem overlap_meet_lp1_st {C : CallF} {r : R} (a0 : (List (List (Int × Int)))) (a1 : (List (List (Int × Int)))) (a2 : Bool) (v0 : (List (List (Int × Int)))) (v1 : Bool) (v2 : (List (List (Int × Int)))) (v3 : Int) (v4 : Int) (h : (if (decide (v4 < v3)) = true then (if (0 ≤ v4 ∧ v4 < ((List.length v2 : Nat) : Int)) then (overlap_meet_lp2 C a0 a1 a2 v0 v1 (List.getD v2 (Int.toNat v4) ([] : (List (Int × Int)))) v2 v3 v4 v0 ((List.length v0 : Nat) : Int) (0 : Int)) else none) else (some [.val .bool false])) = some r) : overlap_meet_lp1 C a0 a1 a2 v0 v1 v2 v3 v4 = some r := lpAt_of (Eq.trans (by kernel_rfl) h)
theorem overlap_meet_lp2_st {C : CallF} {r : R} (a0 : (List (List (Int × Int)))) (a1 : (List (List (Int × Int)))) (a2 : Bool) (v0 : (List (List (Int × Int)))) (v1 : Bool) (v2 : (List (Int × Int))) (v3 : (List (List (Int × Int)))) (v4 : Int) (v5 : Int) (v6 : (List (List (Int × Int)))) (v7 : Int) (v8 : Int) (h : (if (decide (v8 < v7)) = true then (if (0 ≤ v8 ∧ v8 < ((List.length v6 : Nat) : Int)) then ((callT C [.v .bool] 149 [.val (.sl t0) v2, .val (.sl t0) (List.getD v6 (Int.toNat v8) ([] : (List (Int × Int)))), .val .bool v1]).bind fun (r1 : Bool) => (if (!r1) = true then ((callT C [.v .bool] 149 [.val (.sl t0) (List.getD v6 (Int.toNat v8) ([] : (List (Int × Int)))), .val (.sl t0) v2, .val .bool v1]).bind fun (r2 : Bool) => (if (!r2) = true then (some [.val .bool true]) else (overlap_meet_lp2 C a0 a1 a2 v0 v1 v2 v3 v4 v5 v6 v7 (wr .i64 (v8 + (1 : Int)))))) else (overlap_meet_lp2 C a0 a1 a2 v0 v1 v2 v3 v4 v5 v6 v7 (wr .i64 (v8 + (1 : Int)))))) else none) else (overlap_meet_lp1 C a0 a1 a2 v0 v1 v3 v4 (wr .i64 (v5 + (1 : Int))))) = some r) : overlap_meet_lp2 C a0 a1 a2 v0 v1 v2 v3 v4 v5 v6 v7 v8 = some r := lpAt_of (Eq.trans (by kernel_rfl) h)
theorem overlap_clip_st {r : R} (a0 : Int) (a1 : Int) (h : (if (decide (a0 ≥ (1048576 : Int))) = true then (some [.val tI (0 : Int), .val tI (0 : Int), .val .bool false]) else (if (decide (a0 < (0 : Int))) = true then (some [.val tI (if ((-1048576) : Int) > a0 then ((-1048576) : Int) else a0), .val tI (if (1048576 : Int) < (wr .i64 (a0 + a1)) then (1048576 : Int) else (wr .i64 (a0 + a1))), .val .bool (decide ((if ((-1048576) : Int) > a0 then ((-1048576) : Int) else a0) < (if (1048576 : Int) < (wr .i64 (a0 + a1)) then (1048576 : Int) else (wr .i64 (a0 + a1)))))]) else (if (decide (a1 < (wr .i64 ((1048576 : Int) - a0)))) = true then (some [.val tI (if ((-1048576) : Int) > a0 then ((-1048576) : Int) else a0), .val tI (if (1048576 : Int) < (wr .i64 (a0 + a1)) then (1048576 : Int) else (wr .i64 (a0 + a1))), .val .bool (decide ((if ((-1048576) : Int) > a0 then ((-1048576) : Int) else a0) < (if (1048576 : Int) < (wr .i64 (a0 + a1)) then (1048576 : Int) else (wr .i64 (a0 + a1)))))]) else (some [.val tI (if ((-1048576) : Int) > a0 then ((-1048576) : Int) else a0), .val tI (1048576 : Int), .val .bool (decide ((if ((-1048576) : Int) > a0 then ((-1048576) : Int) else a0) < (1048576 : Int)))])))) = some r) : CG 150 [.val tI a0, .val tI a1] = some r := limC_run (f := cf_overlap_clip) (by kernel_rfl) (by kernel_rfl) (Eq.trans (by kernel_rfl) h)
noncomputable def overlap_outside_lp1 (C : CallF) (a0 : (List (Int × Int))) (a1 : (List (Int × Int))) (a2 : Bool) (v0 : (List (Int × Int))) (v1 : (List (Int × Int))) (v2 : Bool) (v3 : (List (Int × Int))) (v4 : Int) (v5 : Int) : Option R := lpAt C cf_overlap_outside [.val (.sl t0) a0, .val (.sl t0) a1, .val .bool a2] [1, 0, 1, 0] [.d (.val (.sl t0) v0), .d (.val (.sl t0) v1), .d (.val .bool v2), .d (.undef), .d (.undef), .d (.undef), .d (.undef), .d (.undef), .d (.undef), .d (.undef), .d (.undef), .d (.undef), .d (.undef), .d (.undef), .d (.val (.sl t0) v3), .d (.val tI v4), .d (.val tI v5), .d (.undef), .d (.undef), .d (.undef), .d (.undef), .d (.undef), .d (.undef), .d (.undef), .d (.undef), .d (.undef), .d (.undef), .d (.undef), .d (.undef), .d (.undef), .d (.undef), .d (.undef), .d (.undef), .d (.undef), .d (.undef), .d (.undef), .d (.undef), .d (.undef), .d (.undef), .d (.undef), .d (.undef), .d (.undef), .d (.undef), .d (.undef), .d (.undef), .d (.undef), .d (.undef), .d (.undef), .d (.undef), .d (.undef), .d (.undef), .d (.undef), .d (.undef), .d (.undef), .d (.undef), .d (.undef), .d (.undef), .d (.undef), .d (.undef), .d (.undef), .d (.undef), .d (.undef), .d (.undef), .d (.undef), .d (.undef), .d (.undef), .d (.undef), .d (.undef), .d (.undef), .d (.undef), .d (.undef), .d (.undef), .d (.undef)] (ofL [])
noncomputable def overlap_outside_lp2 (C : CallF) (a0 : (List (Int × Int))) (a1 : (List (Int × Int))) (a2 : Bool) (v0 : (List (Int × Int))) (v1 : (List (Int × Int))) (v2 : Bool) (v3 : Bool) (v4 : (List (Int × Int))) (v5 : Int) (v6 : Int) (v7 : (List (Int × Int))) (v8 : Int) (v9 : Int) (v10 : (Int × Int)) (v11 : (Int × Int)) : Option R := lpAt C cf_overlap_outside [.val (.sl t0) a0, .val (.sl t0) a1, .val .bool a2] [1, 0, 1, 0, 0, 1, 1, 0, 0, 1, 1, 1, 0, 1, 0] [.d (.val (.sl t0) v0), .d (.val (.sl t0) v1), .d (.val .bool v2), .d (.undef), .d (.undef), .d (.undef), .d (.undef), .d (.undef), .d (.ptr 200000 0 []), .d (.ptr 200001 0 []), .d (.val .bool v3), .d (.undef), .d (.undef), .d (.undef), .d (.val (.sl t0) v4), .d (.val tI v5), .d (.val tI v6), .d (.undef), .d (.undef), .d (.undef), .d (.undef), .d (.undef), .d (.undef), .d (.undef), .d (.undef), .d (.undef), .d (.undef), .d (.undef), .d (.undef), .d (.val (.sl t0) v7), .d (.val tI v8), .d (.val tI v9), .d (.undef), .d (.undef), .d (.undef), .d (.undef), .d (.undef), .d (.undef), .d (.undef), .d (.undef), .d (.undef), .d (.undef), .d (.undef), .d (.undef), .d (.undef), .d (.undef), .d (.undef), .d (.undef), .d (.undef), .d (.undef), .d (.undef), .d (.undef), .d (.undef), .d (.undef), .d (.undef), .d (.undef), .d (.undef), .d (.undef), .d (.undef), .d (.undef), .d (.undef), .d (.undef), .d (.undef), .d (.undef), .d (.undef), .d (.undef), .d (.undef), .d (.undef), .d (.undef), .d (.undef), .d (.undef), .d (.undef), .d (.undef)] (ofL [(200000, .box t0 (.val t0 v10)), (200001, .box t0 (.val t0 v11))])
theorem overlap_outside_st {r : R} (a0 : (List (Int × Int))) (a1 : (List (Int × Int))) (a2 : Bool) (h : (overlap_outside_lp1 CG a0 a1 a2 a0 a1 a2 a0 ((List.length a0 : Nat) : Int) (0 : Int)) = some r) : CG 149 [.val (.sl t0) a0, .val (.sl t0) a1, .val .bool a2] = some r := limC_run (f := cf_overlap_outside) (by kernel_rfl) (by kernel_rfl) (Eq.trans (by kernel_rfl) h)
theorem overlap_outside_lp1_st {C : CallF} {r : R} (a0 : (List (Int × Int))) (a1 : (List (Int × Int))) (a2 : Bool) (v0 : (List (Int × Int))) (v1 : (List (Int × Int))) (v2 : Bool) (v3 : (List (Int × Int))) (v4 : Int) (v5 : Int) (h : (if (decide (v5 < v4)) = true then (if (0 ≤ v5 ∧ v5 < ((List.length v3 : Nat) : Int)) then (if (((List.length v0 : Nat) : Int) ≠ 0) then (if (0 ≤ (Int.tmod (wr .i64 (v5 + (1 : Int))) ((List.length v0 : Nat) : Int)) ∧ (Int.tmod (wr .i64 (v5 + (1 : Int))) ((List.length v0 : Nat) : Int)) < ((List.length v0 : Nat) : Int)) then (overlap_outside_lp2 C a0 a1 a2 v0 v1 v2 true v3 v4 v5 v1 ((List.length v1 : Nat) : Int) (0 : Int) (List.getD v3 (Int.toNat v5) ((0 : Int), (0 : Int))) (List.getD v0 (Int.toNat (Int.tmod (wr .i64 (v5 + (1 : Int))) ((List.length v0 : Nat) : Int))) ((0 : Int), (0 : Int)))) else none) else none) else none) else (some [.val .bool false])) = some r) : overlap_outside_lp1 C a0 a1 a2 v0 v1 v2 v3 v4 v5 = some r := lpAt_of (Eq.trans (by kernel_rfl) h)
theorem overlap_outside_lp2_st {C : CallF} {r : R} (a0 : (List (Int × Int))) (a1 : (List (Int × Int))) (a2 : Bool) (v0 : (List (Int × Int))) (v1 : (List (Int × Int))) (v2 : Bool) (v3 : Bool) (v4 : (List (Int × Int))) (v5 : Int) (v6 : Int) (v7 : (List (Int × Int))) (v8 : Int) (v9 : Int) (v10 : (Int × Int)) (v11 : (Int × Int)) (h : (if (decide (v9 < v8)) = true then (if (0 ≤ v9 ∧ v9 < ((List.length v7 : Nat) : Int)) then (if v3 = true then (if (decide ((wr .i64 ((wr .i64 ((wr .i64 (v11.1 - v10.1)) * (wr .i64 ((List.getD v7 (Int.toNat v9) ((0 : Int), (0 : Int))).2 - v10.2)))) - (wr .i64 ((wr .i64 (v11.2 - v10.2)) * (wr .i64 ((List.getD v7 (Int.toNat v9) ((0 : Int), (0 : Int))).1 - v10.1)))))) < (0 : Int))) = true then (overlap_outside_lp2 C a0 a1 a2 v0 v1 v2 true v4 v5 v6 v7 v8 (wr .i64 (v9 + (1 : Int))) v10 v11) else (if v2 = true then (overlap_outside_lp2 C a0 a1 a2 v0 v1 v2 ((wr .i64 ((wr .i64 ((wr .i64 (v11.1 - v10.1)) * (wr .i64 ((List.getD v7 (Int.toNat v9) ((0 : Int), (0 : Int))).2 - v10.2)))) - (wr .i64 ((wr .i64 (v11.2 - v10.2)) * (wr .i64 ((List.getD v7 (Int.toNat v9) ((0 : Int), (0 : Int))).1 - v10.1)))))) == (0 : Int)) v4 v5 v6 v7 v8 (wr .i64 (v9 + (1 : Int))) v10 v11) else (overlap_outside_lp2 C a0 a1 a2 v0 v1 v2 false v4 v5 v6 v7 v8 (wr .i64 (v9 + (1 : Int))) v10 v11))) else (overlap_outside_lp2 C a0 a1 a2 v0 v1 v2 false v4 v5 v6 v7 v8 (wr .i64 (v9 + (1 : Int))) v10 v11)) else none) else (if v3 = true then (some [.val .bool true]) else (overlap_outside_lp1 C a0 a1 a2 v0 v1 v2 v4 v5 (wr .i64 (v6 + (1 : Int)))))) = some r) : overlap_outside_lp2 C a0 a1 a2 v0 v1 v2 v3 v4 v5 v6 v7 v8 v9 v10 v11 = some r := lpAt_of (Eq.trans (by kernel_rfl) h)
noncomputable def polygon_Check_lp1 (C : CallF) (a0 : (List (Int × Int))) (v0 : (List (Int × Int))) (v1 : (List (Int × Int))) (v2 : Int) (v3 : Int) : Option R := lpAt C cf_polygon_Check [.val (.sl t0) a0] [1, 1, 1, 0, 1, 0] [.d (.val (.sl t0) v0), .d (.undef), .d (.undef), .d (.undef), .d (.undef), .d (.undef), .d (.undef), .d (.undef), .d (.undef), .d (.undef), .d (.undef), .d (.val (.sl t0) v1), .d (.val tI v2), .d (.val tI v3), .d (.undef), .d (.undef), .d (.undef), .d (.undef), .d (.undef), .d (.undef), .d (.undef), .d (.undef), .d (.undef), .d (.undef), .d (.undef), .d (.undef), .d (.undef), .d (.undef), .d (.undef), .d (.undef), .d (.undef)] (ofL [])
theorem polygon_Check_st {r : R} (a0 : (List (Int × Int))) (h : (if (decide (((List.length a0 : Nat) : Int) > (40 : Int))) = true then (some [.val tI (5 : Int)]) else (if (decide (((List.length a0 : Nat) : Int) < (3 : Int))) = true then (some [.val tI (11 : Int)]) else (polygon_Check_lp1 CG a0 a0 a0 ((List.length a0 : Nat) : Int) (0 : Int)))) = some r) : CG 13 [.val (.sl t0) a0] = some r := limC_run (f := cf_polygon_Check) (by kernel_rfl) (by kernel_rfl) (Eq.trans (by kernel_rfl) h)
theorem polygon_Check_lp1_st {C : CallF} {r : R} (a0 : (List (Int × Int))) (v0 : (List (Int × Int))) (v1 : (List (Int × Int))) (v2 : Int) (v3 : Int) (h : (if (decide (v3 < v2)) = true then (if (0 ≤ v3 ∧ v3 < ((List.length v1 : Nat) : Int)) then ((callT C [.v .bool] 20 [.val tI (List.getD v1 (Int.toNat v3) ((0 : Int), (0 : Int))).1]).bind fun (r1 : Bool) => (if (!r1) = true then (some [.val tI (3 : Int)]) else ((callT C [.v .bool] 20 [.val tI (List.getD v1 (Int.toNat v3) ((0 : Int), (0 : Int))).2]).bind fun (r2 : Bool) => (if (!r2) = true then (some [.val tI (3 : Int)]) else (polygon_Check_lp1 C a0 v0 v1 v2 (wr .i64 (v3 + (1 : Int)))))))) else none) else ((callT C [.v .bool] 21 [.val (.sl t0) v0]).bind fun (r3 : Bool) => (if (!r3) = true then (some [.val tI (11 : Int)]) else (some [.val tI (0 : Int)])))) = some r) : polygon_Check_lp1 C a0 v0 v1 v2 v3 = some r := lpAt_of (Eq.trans (by kernel_rfl) h)
noncomputable def polygon_Normal_lp1 (C : CallF) (a0 : (List (Int × Int))) (v0 : (List (Int × Int))) (v1 : (List (Int × Int))) (v2 : Int) (v3 : Int) (v4 : (List (Int × Int))) : Option R := lpAt C cf_polygon_Normal [.val (.sl t0) a0] [1, 1, 1, 0, 1, 0] [.d (.val (.sl t0) v0), .d (.undef), .d (.undef), .d (.undef), .d (.undef), .d (.ref 100000), .d (.undef), .d (.undef), .d (.undef), .d (.undef), .d (.undef), .d (.undef), .d (.undef), .d (.undef), .d (.val (.sl t0) v1), .d (.val tI v2), .d (.val tI v3), .d (.undef), .d (.undef), .d (.undef), .d (.undef), .d (.undef), .d (.undef), .d (.undef), .d (.undef), .d (.undef), .d (.undef), .d (.undef), .d (.undef), .d (.undef), .d (.undef), .d (.undef), .d (.undef), .d (.undef), .d (.undef), .d (.undef), .d (.undef), .d (.undef), .d (.undef), .d (.undef), .d (.undef), .d (.undef), .d (.undef), .d (.undef), .d (.undef), .d (.undef), .d (.undef), .d (.undef), .d (.undef), .d (.undef), .d (.undef), .d (.undef), .d (.undef), .d (.undef), .d (.undef), .d (.undef), .d (.undef), .d (.undef), .d (.undef), .d (.undef), .d (.undef), .d (.undef), .d (.undef), .d (.undef), .d (.undef), .d (.undef), .d (.undef), .d (.undef)] (ofL [(100000, .arr t0 v4 .lv)])
theorem polygon_Normal_st {r : R} (a0 : (List (Int × Int))) (h : ((callT CG [.v tI] 13 [.val (.sl t0) a0]).bind fun (r1 : Int) => (if (r1 != (0 : Int)) = true then (some [.val (.sl t0) ([] : List (Int × Int)), .val tI r1]) else (polygon_Normal_lp1 CG a0 a0 a0 ((List.length a0 : Nat) : Int) (0 : Int) ([] : List (Int × Int))))) = some r) : CG 8 [.val (.sl t0) a0] = some r := limC_run (f := cf_polygon_Normal) (by kernel_rfl) (by kernel_rfl) (Eq.trans (by kernel_rfl) h)
theorem polygon_Normal_lp1_st {C : CallF} {r : R} (a0 : (List (Int × Int))) (v0 : (List (Int × Int))) (v1 : (List (Int × Int))) (v2 : Int) (v3 : Int) (v4 : (List (Int × Int))) (h : (if (decide (v3 < v2)) = true then (if (0 ≤ v3 ∧ v3 < ((List.length v1 : Nat) : Int)) then (if (((List.length v0 : Nat) : Int) ≠ 0) then (if (0 ≤ (Int.tmod (wr .i64 ((wr .i64 (v3 + ((List.length v0 : Nat) : Int))) - (1 : Int))) ((List.length v0 : Nat) : Int)) ∧ (Int.tmod (wr .i64 ((wr .i64 (v3 + ((List.length v0 : Nat) : Int))) - (1 : Int))) ((List.length v0 : Nat) : Int)) < ((List.length v0 : Nat) : Int)) then (if (((List.length v0 : Nat) : Int) ≠ 0) then (if (0 ≤ (Int.tmod (wr .i64 (v3 + (1 : Int))) ((List.length v0 : Nat) : Int)) ∧ (Int.tmod (wr .i64 (v3 + (1 : Int))) ((List.length v0 : Nat) : Int)) < ((List.length v0 : Nat) : Int)) then ((callT C [.v tI] 14 [.val t0 (List.getD v0 (Int.toNat (Int.tmod (wr .i64 ((wr .i64 (v3 + ((List.length v0 : Nat) : Int))) - (1 : Int))) ((List.length v0 : Nat) : Int))) ((0 : Int), (0 : Int))), .val t0 (List.getD v1 (Int.toNat v3) ((0 : Int), (0 : Int))), .val t0 (List.getD v0 (Int.toNat (Int.tmod (wr .i64 (v3 + (1 : Int))) ((List.length v0 : Nat) : Int))) ((0 : Int), (0 : Int)))]).bind fun (r1 : Int) => (if (r1 != (0 : Int)) = true then (if (List.length v4 + List.length ([(List.getD v1 (Int.toNat v3) ((0 : Int), (0 : Int)))] : List (Int × Int)) < 8796093022208) then (polygon_Normal_lp1 C a0 v0 v1 v2 (wr .i64 (v3 + (1 : Int))) (v4 ++ ([(List.getD v1 (Int.toNat v3) ((0 : Int), (0 : Int)))] : List (Int × Int)))) else none) else (polygon_Normal_lp1 C a0 v0 v1 v2 (wr .i64 (v3 + (1 : Int))) v4))) else none) else none) else none) else none) else none) else ((callT C [.v tI] 15 [.val (.sl t0) v0]).bind fun (r2 : Int) => (if (decide (r2 < (0 : Int))) = true then ((callT C [.o t0] 16 [.own t0 v4]).bind fun (r3 : (List (Int × Int))) => ((callT C [.v t0] 17 [.val (.sl t0) r3, .cloi 18 []]).bind fun (r4 : (Int × Int)) => ((callT C [.v tI] 19 [.val (.sl t0) r3, .val t0 r4]).bind fun (r5 : Int) => (if (0 ≤ r5 ∧ r5 ≤ ((List.length r3 : Nat) : Int) ∧ ((List.length r3 : Nat) : Int) ≤ ((List.length r3 : Nat) : Int) ∧ ((List.length r3 : Nat) : Int) = ((List.length r3 : Nat) : Int)) then (if (0 ≤ r5 ∧ r5 ≤ ((List.length r3 : Nat) : Int)) then (if (List.length (List.drop (Int.toNat r5) (List.take (Int.toNat ((List.length r3 : Nat) : Int)) r3)) + List.length (List.take (Int.toNat r5) r3) < 8796093022208) then (some [.val (.sl t0) ((List.drop (Int.toNat r5) (List.take (Int.toNat ((List.length r3 : Nat) : Int)) r3)) ++ (List.take (Int.toNat r5) r3)), .val tI (0 : Int)]) else none) else none) else none)))) else ((callT C [.v t0] 17 [.val (.sl t0) v4, .cloi 18 []]).bind fun (r6 : (Int × Int)) => ((callT C [.v tI] 19 [.val (.sl t0) v4, .val t0 r6]).bind fun (r7 : Int) => (if (0 ≤ r7 ∧ r7 ≤ ((List.length v4 : Nat) : Int) ∧ ((List.length v4 : Nat) : Int) ≤ ((List.length v4 : Nat) : Int) ∧ ((List.length v4 : Nat) : Int) = ((List.length v4 : Nat) : Int)) then (if (0 ≤ r7 ∧ r7 ≤ ((List.length v4 : Nat) : Int)) then (if (List.length (List.drop (Int.toNat r7) (List.take (Int.toNat ((List.length v4 : Nat) : Int)) v4)) + List.length (List.take (Int.toNat r7) v4) < 8796093022208) then (some [.val (.sl t0) ((List.drop (Int.toNat r7) (List.take (Int.toNat ((List.length v4 : Nat) : Int)) v4)) ++ (List.take (Int.toNat r7) v4)), .val tI (0 : Int)]) else none) else none) else none)))))) = some r) : polygon_Normal_lp1 C a0 v0 v1 v2 v3 v4 = some r := lpAt_of (Eq.trans (by kernel_rfl) h)
noncomputable def polygon_Box_lp1 (C : CallF) (a0 : (List (Int × Int))) (v0 : (List (Int × Int))) (v1 : Int) (v2 : Int) (v3 : (Int × (Int × (Int × Int)))) (v4 : (Int × Int)) (v5 : (Int × Int)) : Option R := lpAt C cf_polygon_Box [.val (.sl t0) a0] [1, 1, 1, 0, 1, 0] [.d (.undef), .d (.undef), .d (.ptr 100000 0 []), .d (.undef), .d (.undef), .d (.ptr 100001 0 []), .d (.ptr 100002 0 []), .d (.undef), .d (.undef), .d (.undef), .d (.undef), .d (.undef), .d (.undef), .d (.undef), .d (.undef), .d (.undef), .d (.undef), .d (.undef), .d (.undef), .d (.undef), .d (.undef), .d (.val (.sl t0) v0), .d (.val tI v1), .d (.val tI v2), .d (.undef), .d (.undef), .d (.undef), .d (.undef), .d (.undef), .d (.undef), .d (.undef), .d (.undef), .d (.undef), .d (.undef), .d (.undef), .d (.undef), .d (.undef), .d (.undef), .d (.undef), .d (.undef), .d (.undef), .d (.undef), .d (.undef), .d (.undef), .d (.undef), .d (.undef), .d (.undef), .d (.undef), .d (.undef), .d (.undef), .d (.undef), .d (.undef), .d (.undef), .d (.undef), .d (.undef), .d (.undef), .d (.undef), .d (.undef), .d (.undef), .d (.undef), .d (.undef), .d (.undef), .d (.undef), .d (.undef), .d (.undef), .d (.undef), .d (.undef)] (ofL [(100000, .box t8 (.val t8 v3)), (100001, .box t0 (.val t0 v4)), (100002, .box t0 (.val t0 v5))])
theorem polygon_Box_st {r : R} (a0 : (List (Int × Int))) (h : ((callT CG [.v tI] 13 [.val (.sl t0) a0]).bind fun (r1 : Int) => (if (r1 != (0 : Int)) = true then (some [.val t8 ((0 : Int), ((0 : Int), ((0 : Int), (0 : Int)))), .val tI r1]) else (if (0 ≤ (0 : Int) ∧ (0 : Int) < ((List.length a0 : Nat) : Int)) then (if (0 ≤ (0 : Int) ∧ (0 : Int) < ((List.length a0 : Nat) : Int)) then (polygon_Box_lp1 CG a0 a0 ((List.length a0 : Nat) : Int) (0 : Int) ((0 : Int), ((0 : Int), ((0 : Int), (0 : Int)))) (List.getD a0 (Int.toNat (0 : Int)) ((0 : Int), (0 : Int))) (List.getD a0 (Int.toNat (0 : Int)) ((0 : Int), (0 : Int)))) else none) else none))) = some r) : CG 61 [.val (.sl t0) a0] = some r := limC_run (f := cf_polygon_Box) (by kernel_rfl) (by kernel_rfl) (Eq.trans (by kernel_rfl) h)
theorem polygon_Box_lp1_st {C : CallF} {r : R} (a0 : (List (Int × Int))) (v0 : (List (Int × Int))) (v1 : Int) (v2 : Int) (v3 : (Int × (Int × (Int × Int)))) (v4 : (Int × Int)) (v5 : (Int × Int)) (h : (if (decide (v2 < v1)) = true then (if (0 ≤ v2 ∧ v2 < ((List.length v0 : Nat) : Int)) then (polygon_Box_lp1 C a0 v0 v1 (wr .i64 (v2 + (1 : Int))) v3 ((if (List.getD v0 (Int.toNat v2) ((0 : Int), (0 : Int))).1 < v4.1 then (List.getD v0 (Int.toNat v2) ((0 : Int), (0 : Int))).1 else v4.1), (if (List.getD v0 (Int.toNat v2) ((0 : Int), (0 : Int))).2 < v4.2 then (List.getD v0 (Int.toNat v2) ((0 : Int), (0 : Int))).2 else v4.2)) ((if (List.getD v0 (Int.toNat v2) ((0 : Int), (0 : Int))).1 > v5.1 then (List.getD v0 (Int.toNat v2) ((0 : Int), (0 : Int))).1 else v5.1), (if (List.getD v0 (Int.toNat v2) ((0 : Int), (0 : Int))).2 > v5.2 then (List.getD v0 (Int.toNat v2) ((0 : Int), (0 : Int))).2 else v5.2))) else none) else (some [.val t8 (v4.1, (v4.2, ((wr .i64 (v5.1 - v4.1)), (wr .i64 (v5.2 - v4.2))))), .val tI (0 : Int)])) = some r) : polygon_Box_lp1 C a0 v0 v1 v2 v3 v4 v5 = some r := lpAt_of (Eq.trans (by kernel_rfl) h)
theorem polygon_inside_st {r : R} (a0 : Int) (h : (if (decide (a0 ≥ ((-1048576) : Int))) = true then (some [.val .bool (decide (a0 ≤ (1048576 : Int)))]) else (some [.val .bool false])) = some r) : CG 20 [.val tI a0] = some r := limC_run (f := cf_polygon_inside) (by kernel_rfl) (by kernel_rfl) (Eq.trans (by kernel_rfl) h)
noncomputable def polygon_simple_lp1 (C : CallF) (a0 : (List (Int × Int))) (v0 : Int) (v1 : Int) (v2 : (List ((Int × Int) × (Int × Int)))) : Option R := lpAt C cf_polygon_simple [.val (.sl t0) a0] [1, 1, 0, 1, 0] [.d (.undef), .d (.undef), .d (.undef), .d (.ref 100000), .d (.undef), .d (.undef), .d (.undef), .d (.undef), .d (.undef), .d (.undef), .d (.ref 100000), .d (.val tI v0), .d (.val tI v1), .d (.undef), .d (.undef), .d (.undef), .d (.undef), .d (.undef), .d (.undef), .d (.undef), .d (.undef), .d (.undef), .d (.undef), .d (.undef), .d (.undef), .d (.undef), .d (.undef), .d (.undef), .d (.undef), .d (.undef), .d (.undef), .d (.undef), .d (.undef), .d (.undef), .d (.undef), .d (.undef), .d (.undef), .d (.undef), .d (.undef), .d (.undef), .d (.undef), .d (.undef), .d (.undef), .d (.undef), .d (.undef), .d (.undef), .d (.undef), .d (.undef), .d (.undef), .d (.undef), .d (.undef), .d (.undef), .d (.undef), .d (.undef), .d (.undef), .d (.undef), .d (.undef), .d (.undef), .d (.undef), .d (.undef), .d (.undef), .d (.undef), .d (.undef), .d (.undef)] (ofL [(100000, .arr t1 v2 .lv)])
noncomputable def polygon_simple_lp2 (C : CallF) (a0 : (List (Int × Int))) (v0 : Int) (v1 : Int) (v2 : Int) (v3 : Int) (v4 : (List ((Int × Int) × (Int × Int)))) (v5 : ((Int × Int) × (Int × Int))) : Option R := lpAt C cf_polygon_simple [.val (.sl t0) a0] [1, 1, 0, 1, 0, 0, 1, 1, 0, 0, 1, 1, 1, 1, 1, 0] [.d (.undef), .d (.undef), .d (.undef), .d (.ref 200000), .d (.val tI v0), .d (.ptr 200001 0 []), .d (.undef), .d (.val tI v1), .d (.undef), .d (.undef), .d (.ref 200000), .d (.val tI v2), .d (.val tI v3), .d (.undef), .d (.undef), .d (.undef), .d (.undef), .d (.undef), .d (.undef), .d (.undef), .d (.undef), .d (.undef), .d (.undef), .d (.undef), .d (.undef), .d (.undef), .d (.undef), .d (.undef), .d (.undef), .d (.undef), .d (.undef), .d (.undef), .d (.undef), .d (.undef), .d (.undef), .d (.undef), .d (.undef), .d (.undef), .d (.undef), .d (.undef), .d (.undef), .d (.undef), .d (.undef), .d (.undef), .d (.undef), .d (.undef), .d (.undef), .d (.undef), .d (.undef), .d (.undef), .d (.undef), .d (.undef), .d (.undef), .d (.undef), .d (.undef), .d (.undef), .d (.undef), .d (.undef), .d (.undef), .d (.undef), .d (.undef), .d (.undef), .d (.undef), .d (.undef)] (ofL [(200000, .arr t1 v4 .lv), (200001, .box t1 (.val t1 v5))])
theorem polygon_simple_st {r : R} (a0 : (List (Int × Int))) (h : ((callT CG [.o t1] 22 [.val (.sl t0) a0]).bind fun (r1 : (List ((Int × Int) × (Int × Int)))) => (polygon_simple_lp1 CG a0 ((List.length r1 : Nat) : Int) (0 : Int) r1)) = some r) : CG 21 [.val (.sl t0) a0] = some r := limC_run (f := cf_polygon_simple) (by kernel_rfl) (by kernel_rfl) (Eq.trans (by kernel_rfl) h)
theorem polygon_simple_lp1_st {C : CallF} {r : R} (a0 : (List (Int × Int))) (v0 : Int) (v1 : Int) (v2 : (List ((Int × Int) × (Int × Int)))) (h : (if (decide (v1 < v0)) = true then (if (0 ≤ v1 ∧ v1 < ((List.length v2 : Nat) : Int)) then (if (((List.getD v2 (Int.toNat v1) (((0 : Int), (0 : Int)), ((0 : Int), (0 : Int)))).1.1 == (List.getD v2 (Int.toNat v1) (((0 : Int), (0 : Int)), ((0 : Int), (0 : Int)))).2.1) && ((List.getD v2 (Int.toNat v1) (((0 : Int), (0 : Int)), ((0 : Int), (0 : Int)))).1.2 == (List.getD v2 (Int.toNat v1) (((0 : Int), (0 : Int)), ((0 : Int), (0 : Int)))).2.2)) = true then (some [.val .bool false]) else (if (((List.length v2 : Nat) : Int) ≠ 0) then (if (0 ≤ (Int.tmod (wr .i64 (v1 + (1 : Int))) ((List.length v2 : Nat) : Int)) ∧ (Int.tmod (wr .i64 (v1 + (1 : Int))) ((List.length v2 : Nat) : Int)) < ((List.length v2 : Nat) : Int)) then ((callT C [.v .bool] 23 [.val t1 (List.getD v2 (Int.toNat v1) (((0 : Int), (0 : Int)), ((0 : Int), (0 : Int)))), .val t0 (List.getD v2 (Int.toNat (Int.tmod (wr .i64 (v1 + (1 : Int))) ((List.length v2 : Nat) : Int))) (((0 : Int), (0 : Int)), ((0 : Int), (0 : Int)))).2]).bind fun (r1 : Bool) => (if r1 = true then (some [.val .bool false]) else ((callT C [.v .bool] 23 [.val t1 (List.getD v2 (Int.toNat (Int.tmod (wr .i64 (v1 + (1 : Int))) ((List.length v2 : Nat) : Int))) (((0 : Int), (0 : Int)), ((0 : Int), (0 : Int)))), .val t0 (List.getD v2 (Int.toNat v1) (((0 : Int), (0 : Int)), ((0 : Int), (0 : Int)))).1]).bind fun (r2 : Bool) => (if r2 = true then (some [.val .bool false]) else (polygon_simple_lp2 C a0 v1 (wr .i64 (v1 + (2 : Int))) v0 v1 v2 (List.getD v2 (Int.toNat v1) (((0 : Int), (0 : Int)), ((0 : Int), (0 : Int))))))))) else none) else none)) else none) else (some [.val .bool true])) = some r) : polygon_simple_lp1 C a0 v0 v1 v2 = some r := lpAt_of (Eq.trans (by kernel_rfl) h)
theorem polygon_simple_lp2_st {C : CallF} {r : R} (a0 : (List (Int × Int))) (v0 : Int) (v1 : Int) (v2 : Int) (v3 : Int) (v4 : (List ((Int × Int) × (Int × Int)))) (v5 : ((Int × Int) × (Int × Int))) (h : (if (decide (v1 < ((List.length v4 : Nat) : Int))) = true then (if (v0 == (0 : Int)) = true then (if (v1 == (wr .i64 (((List.length v4 : Nat) : Int) - (1 : Int)))) = true then (polygon_simple_lp2 C a0 v0 (wr .i64 (v1 + (1 : Int))) v2 v3 v4 v5) else (if (0 ≤ v1 ∧ v1 < ((List.length v4 : Nat) : Int)) then ((callT C [.v .bool] 24 [.val t1 v5, .val t1 (List.getD v4 (Int.toNat v1) (((0 : Int), (0 : Int)), ((0 : Int), (0 : Int))))]).bind fun (r1 : Bool) => (if r1 = true then (some [.val .bool false]) else (polygon_simple_lp2 C a0 v0 (wr .i64 (v1 + (1 : Int))) v2 v3 v4 v5))) else none)) else (if (0 ≤ v1 ∧ v1 < ((List.length v4 : Nat) : Int)) then ((callT C [.v .bool] 24 [.val t1 v5, .val t1 (List.getD v4 (Int.toNat v1) (((0 : Int), (0 : Int)), ((0 : Int), (0 : Int))))]).bind fun (r2 : Bool) => (if r2 = true then (some [.val .bool false]) else (polygon_simple_lp2 C a0 v0 (wr .i64 (v1 + (1 : Int))) v2 v3 v4 v5))) else none)) else (polygon_simple_lp1 C a0 v2 (wr .i64 (v3 + (1 : Int))) v4)) = some r) : polygon_simple_lp2 C a0 v0 v1 v2 v3 v4 v5 = some r := lpAt_of (Eq.trans (by kernel_rfl) h)
theorem polygon_turn_st {r : R} (a0 : (Int × Int)) (a1 : (Int × Int)) (a2 : (Int × Int)) (h : (some [.val tI (wr .i64 ((wr .i64 ((wr .i64 (a1.1 - a0.1)) * (wr .i64 (a2.2 - a1.2)))) - (wr .i64 ((wr .i64 (a1.2 - a0.2)) * (wr .i64 (a2.1 - a1.1))))))]) = some r) : CG 14 [.val t0 a0, .val t0 a1, .val t0 a2] = some r := limC_run (f := cf_polygon_turn) (by kernel_rfl) (by kernel_rfl) (Eq.trans (by kernel_rfl) h)
noncomputable def polygon_area_lp1 (C : CallF) (a0 : (List (Int × Int))) (v0 : Int) (v1 : Int) (v2 : Int) (v3 : (List ((Int × Int) × (Int × Int)))) : Option R := lpAt C cf_polygon_area [.val (.sl t0) a0] [1, 1, 0, 1, 0] [.d (.undef), .d (.undef), .d (.undef), .d (.val tI v0), .d (.undef), .d (.undef), .d (.undef), .d (.ref 100000), .d (.val tI v1), .d (.val tI v2), .d (.undef), .d (.undef), .d (.undef), .d (.undef), .d (.undef), .d (.undef), .d (.undef), .d (.undef), .d (.undef), .d (.undef), .d (.undef), .d (.undef), .d (.undef), .d (.undef), .d (.undef), .d (.undef), .d (.undef), .d (.undef), .d (.undef), .d (.undef), .d (.undef), .d (.undef), .d (.undef)] (ofL [(100000, .arr t1 v3 .lv)])
theorem polygon_area_st {r : R} (a0 : (List (Int × Int))) (h : ((callT CG [.o t1] 22 [.val (.sl t0) a0]).bind fun (r1 : (List ((Int × Int) × (Int × Int)))) => (polygon_area_lp1 CG a0 (0 : Int) ((List.length r1 : Nat) : Int) (0 : Int) r1)) = some r) : CG 15 [.val (.sl t0) a0] = some r := limC_run (f := cf_polygon_area) (by kernel_rfl) (by kernel_rfl) (Eq.trans (by kernel_rfl) h)
theorem polygon_area_lp1_st {C : CallF} {r : R} (a0 : (List (Int × Int))) (v0 : Int) (v1 : Int) (v2 : Int) (v3 : (List ((Int × Int) × (Int × Int)))) (h : (if (decide (v2 < v1)) = true then (if (0 ≤ v2 ∧ v2 < ((List.length v3 : Nat) : Int)) then (polygon_area_lp1 C a0 (wr .i64 (v0 + (wr .i64 ((wr .i64 ((List.getD v3 (Int.toNat v2) (((0 : Int), (0 : Int)), ((0 : Int), (0 : Int)))).2.1 - (List.getD v3 (Int.toNat v2) (((0 : Int), (0 : Int)), ((0 : Int), (0 : Int)))).1.1)) * (wr .i64 ((List.getD v3 (Int.toNat v2) (((0 : Int), (0 : Int)), ((0 : Int), (0 : Int)))).1.2 + (List.getD v3 (Int.toNat v2) (((0 : Int), (0 : Int)), ((0 : Int), (0 : Int)))).2.2)))))) v1 (wr .i64 (v2 + (1 : Int))) v3) else none) else (some [.val tI (wr .i64 (0 - v0))])) = some r) : polygon_area_lp1 C a0 v0 v1 v2 v3 = some r := lpAt_of (Eq.trans (by kernel_rfl) h)
noncomputable def polygon_sides_lp1 (C : CallF) (a0 : (List (Int × Int))) (v0 : (List (Int × Int))) (v1 : (List (Int × Int))) (v2 : Int) (v3 : Int) (v4 : (List ((Int × Int) × (Int × Int)))) : Option R := lpAt C cf_polygon_sides [.val (.sl t0) a0] [1, 1, 0, 1, 0] [.d (.val (.sl t0) v0), .d (.undef), .d (.undef), .d (.ref 100000), .d (.undef), .d (.undef), .d (.undef), .d (.undef), .d (.undef), .d (.val (.sl t0) v1), .d (.val tI v2), .d (.val tI v3), .d (.undef), .d (.undef), .d (.undef), .d (.undef), .d (.undef), .d (.undef), .d (.undef), .d (.undef), .d (.undef), .d (.undef), .d (.undef), .d (.undef), .d (.undef), .d (.undef), .d (.undef), .d (.undef), .d (.undef), .d (.undef), .d (.undef)] (ofL [(100000, .arr t1 v4 .lv)])
theorem polygon_sides_st {r : R} (a0 : (List (Int × Int))) (h : (if (0 ≤ ((List.length a0 : Nat) : Int) ∧ ((List.length a0 : Nat) : Int) ≤ ((List.length a0 : Nat) : Int) ∧ ((List.length a0 : Nat) : Int) ≤ ((8796093022208 : Nat) : Int)) then (polygon_sides_lp1 CG a0 a0 a0 ((List.length a0 : Nat) : Int) (0 : Int) (List.replicate (Int.toNat ((List.length a0 : Nat) : Int)) (((0 : Int), (0 : Int)), ((0 : Int), (0 : Int))))) else none) = some r) : CG 22 [.val (.sl t0) a0] = some r := limC_run (f := cf_polygon_sides) (by kernel_rfl) (by kernel_rfl) (Eq.trans (by kernel_rfl) h)
theorem polygon_sides_lp1_st {C : CallF} {r : R} (a0 : (List (Int × Int))) (v0 : (List (Int × Int))) (v1 : (List (Int × Int))) (v2 : Int) (v3 : Int) (v4 : (List ((Int × Int) × (Int × Int)))) (h : (if (decide (v3 < v2)) = true then (if (0 ≤ v3 ∧ v3 < ((List.length v1 : Nat) : Int)) then (if (((List.length v0 : Nat) : Int) ≠ 0) then (if (0 ≤ (Int.tmod (wr .i64 (v3 + (1 : Int))) ((List.length v0 : Nat) : Int)) ∧ (Int.tmod (wr .i64 (v3 + (1 : Int))) ((List.length v0 : Nat) : Int)) < ((List.length v0 : Nat) : Int)) then (if (0 ≤ v3 ∧ v3 < ((List.length v4 : Nat) : Int)) then (polygon_sides_lp1 C a0 v0 v1 v2 (wr .i64 (v3 + (1 : Int))) (List.set v4 (Int.toNat v3) ((List.getD v1 (Int.toNat v3) ((0 : Int), (0 : Int))), (List.getD v0 (Int.toNat (Int.tmod (wr .i64 (v3 + (1 : Int))) ((List.length v0 : Nat) : Int))) ((0 : Int), (0 : Int)))))) else none) else none) else none) else none) else (some [.own t1 v4])) = some r) : polygon_sides_lp1 C a0 v0 v1 v2 v3 v4 = some r := lpAt_of (Eq.trans (by kernel_rfl) h)
theorem polygon_side_holds_st {r : R} (a0 : ((Int × Int) × (Int × Int))) (a1 : (Int × Int)) (h : ((callT CG [.v tI] 14 [.val t0 a0.1, .val t0 a0.2, .val t0 a1]).bind fun (r1 : Int) => (if (r1 == (0 : Int)) = true then ((callT CG [.v .bool] 25 [.val tI a1.1, .val tI a0.1.1, .val tI a0.2.1]).bind fun (r2 : Bool) => (if r2 = true then ((callT CG [.v .bool] 25 [.val tI a1.2, .val tI a0.1.2, .val tI a0.2.2]).bind fun (r3 : Bool) => (some [.val .bool r3])) else (some [.val .bool false]))) else (some [.val .bool false]))) = some r) : CG 23 [.val t1 a0, .val t0 a1] = some r := limC_run (f := cf_polygon_side_holds) (by kernel_rfl) (by kernel_rfl) (Eq.trans (by kernel_rfl) h)
theorem polygon_side_meets_st {r : R} (a0 : ((Int × Int) × (Int × Int))) (a1 : ((Int × Int) × (Int × Int))) (h : ((callT CG [.v .bool] 23 [.val t1 a0, .val t0 a1.1]).bind fun (r1 : Bool) => (if r1 = true then (some [.val .bool true]) else ((callT CG [.v .bool] 23 [.val t1 a0, .val t0 a1.2]).bind fun (r2 : Bool) => (if r2 = true then (some [.val .bool true]) else ((callT CG [.v .bool] 23 [.val t1 a1, .val t0 a0.1]).bind fun (r3 : Bool) => (if r3 = true then (some [.val .bool true]) else ((callT CG [.v .bool] 23 [.val t1 a1, .val t0 a0.2]).bind fun (r4 : Bool) => (if r4 = true then (some [.val .bool true]) else ((callT CG [.v .bool] 26 [.val t1 a0, .val t0 a1.1, .val t0 a1.2]).bind fun (r5 : Bool) => (if r5 = true then ((callT CG [.v .bool] 26 [.val t1 a1, .val t0 a0.1, .val t0 a0.2]).bind fun (r6 : Bool) => (some [.val .bool r6])) else (some [.val .bool false]))))))))))) = some r) : CG 24 [.val t1 a0, .val t1 a1] = some r := limC_run (f := cf_polygon_side_meets) (by kernel_rfl) (by kernel_rfl) (Eq.trans (by kernel_rfl) h)
theorem polygon_order_st {r : R} (a0 : (Int × Int)) (a1 : (Int × Int)) (h : (if ((a0.1 == a1.1) && (a0.2 == a1.2)) = true then (some [.val tI (0 : Int)]) else (if (decide (a0.1 < a1.1)) = true then (some [.val tI ((-1) : Int)]) else (if (a0.1 == a1.1) = true then (if (decide (a0.2 < a1.2)) = true then (some [.val tI ((-1) : Int)]) else (some [.val tI (1 : Int)])) else (some [.val tI (1 : Int)])))) = some r) : CG 18 [.val t0 a0, .val t0 a1] = some r := limC_run (f := cf_polygon_order) (by kernel_rfl) (by kernel_rfl) (Eq.trans (by kernel_rfl) h)
theorem polygon_within_st {r : R} (a0 : Int) (a1 : Int) (a2 : Int) (h : (if (decide ((if a2 < a1 then a2 else a1) ≤ a0)) = true then (some [.val .bool (decide (a0 ≤ (if a2 > a1 then a2 else a1)))]) else (some [.val .bool false])) = some r) : CG 25 [.val tI a0, .val tI a1, .val tI a2] = some r := limC_run (f := cf_polygon_within) (by kernel_rfl) (by kernel_rfl) (Eq.trans (by kernel_rfl) h)
theorem polygon_side_divides_st {r : R} (a0 : ((Int × Int) × (Int × Int))) (a1 : (Int × Int)) (a2 : (Int × Int)) (h : ((callT CG [.v tI] 14 [.val t0 a0.1, .val t0 a0.2, .val t0 a1]).bind fun (r1 : Int) => ((callT CG [.v tI] 14 [.val t0 a0.1, .val t0 a0.2, .val t0 a2]).bind fun (r2 : Int) => (if (decide (r1 < (0 : Int))) = true then (if (decide (r2 > (0 : Int))) = true then (some [.val .bool true]) else (if (decide (r1 > (0 : Int))) = true then (some [.val .bool (decide (r2 < (0 : Int)))]) else (some [.val .bool false]))) else (if (decide (r1 > (0 : Int))) = true then (some [.val .bool (decide (r2 < (0 : Int)))]) else (some [.val .bool false]))))) = some r) : CG 26 [.val t1 a0, .val t0 a1, .val t0 a2] = some r := limC_run (f := cf_polygon_side_divides) (by kernel_rfl) (by kernel_rfl) (Eq.trans (by kernel_rfl) h)
noncomputable def slices_Reverse_api_Spot_api_Spot_lp1 (C : CallF) (a0 : List (Int × Int)) (v0 : Int) (v1 : Int) (v2 : (List (Int × Int))) : Option R := lpAt C cf_slices_Reverse_api_Spot_api_Spot [.own t0 a0] [1, 0] [.d (.ref 900000), .d (.undef), .d (.val tI v0), .d (.val tI v1), .d (.undef), .d (.undef), .d (.undef), .d (.undef), .d (.undef), .d (.undef), .d (.undef), .d (.undef), .d (.undef), .d (.undef), .d (.undef), .d (.undef), .d (.undef), .d (.undef), .d (.undef), .d (.undef), .d (.undef), .d (.undef), .d (.undef), .d (.undef), .d (.undef), .d (.undef), .d (.undef), .d (.undef)] (ofL [(900000, .arr t0 v2 .io)])
theorem slices_Reverse_api_Spot_api_Spot_st {r : R} (a0 : List (Int × Int)) (h : (slices_Reverse_api_Spot_api_Spot_lp1 CG a0 (0 : Int) (wr .i64 (((List.length a0 : Nat) : Int) - (1 : Int))) a0) = some r) : CG 16 [.own t0 a0] = some r := limC_run (f := cf_slices_Reverse_api_Spot_api_Spot) (by kernel_rfl) (by kernel_rfl) (Eq.trans (by kernel_rfl) h)
theorem slices_Reverse_api_Spot_api_Spot_lp1_st {C : CallF} {r : R} (a0 : List (Int × Int)) (v0 : Int) (v1 : Int) (v2 : (List (Int × Int))) (h : (if (decide (v0 < v1)) = true then (if (0 ≤ v1 ∧ v1 < ((List.length v2 : Nat) : Int)) then (if (0 ≤ v0 ∧ v0 < ((List.length v2 : Nat) : Int)) then (if (0 ≤ v0 ∧ v0 < ((List.length v2 : Nat) : Int)) then (if (0 ≤ v1 ∧ v1 < ((List.length (List.set v2 (Int.toNat v0) (List.getD v2 (Int.toNat v1) ((0 : Int), (0 : Int)))) : Nat) : Int)) then (slices_Reverse_api_Spot_api_Spot_lp1 C a0 (wr .i64 (v0 + (1 : Int))) (wr .i64 (v1 - (1 : Int))) (List.set (List.set v2 (Int.toNat v0) (List.getD v2 (Int.toNat v1) ((0 : Int), (0 : Int)))) (Int.toNat v1) (List.getD v2 (Int.toNat v0) ((0 : Int), (0 : Int))))) else none) else none) else none) else none) else (some [.own t0 v2])) = some r) : slices_Reverse_api_Spot_api_Spot_lp1 C a0 v0 v1 v2 = some r := lpAt_of (Eq.trans (by kernel_rfl) h)
noncomputable def slices_MinFunc_api_Spot_api_Spot_lp1 (C : CallF) (a0 : (List (Int × Int))) (v0 : (List (Int × Int))) (v1 : Int) (v2 : (Int × Int)) (v3 : (Int × Int)) : Option R := lpAt C cf_slices_MinFunc_api_Spot_api_Spot [.val (.sl t0) a0, .cloi 18 []] [1, 1, 1, 0, 1, 0] [.d (.val (.sl t0) v0), .d (.cloi 18 []), .d (.undef), .d (.undef), .d (.ptr 100000 0 []), .d (.ptr 100001 0 []), .d (.val tI v1), .d (.undef), .d (.undef), .d (.undef), .d (.undef), .d (.undef), .d (.undef), .d (.undef), .d (.undef), .d (.undef), .d (.undef), .d (.undef), .d (.undef), .d (.undef), .d (.undef), .d (.undef), .d (.undef), .d (.undef), .d (.undef), .d (.undef), .d (.undef), .d (.undef), .d (.undef), .d (.undef), .d (.undef), .d (.undef), .d (.undef)] (ofL [(100000, .box t0 (.val t0 v2)), (100001, .box t0 (.val t0 v3))])
theorem slices_MinFunc_api_Spot_api_Spot_st {r : R} (a0 : (List (Int × Int))) (h : (if (decide (((List.length a0 : Nat) : Int) < (1 : Int))) = true then none else (if (0 ≤ (0 : Int) ∧ (0 : Int) < ((List.length a0 : Nat) : Int)) then (slices_MinFunc_api_Spot_api_Spot_lp1 CG a0 a0 (1 : Int) ((0 : Int), (0 : Int)) (List.getD a0 (Int.toNat (0 : Int)) ((0 : Int), (0 : Int)))) else none)) = some r) : CG 17 [.val (.sl t0) a0, .cloi 18 []] = some r := limC_run (f := cf_slices_MinFunc_api_Spot_api_Spot) (by kernel_rfl) (by kernel_rfl) (Eq.trans (by kernel_rfl) h)
theorem slices_MinFunc_api_Spot_api_Spot_lp1_st {C : CallF} {r : R} (a0 : (List (Int × Int))) (v0 : (List (Int × Int))) (v1 : Int) (v2 : (Int × Int)) (v3 : (Int × Int)) (h : (if (decide (v1 < ((List.length v0 : Nat) : Int))) = true then (if (0 ≤ v1 ∧ v1 < ((List.length v0 : Nat) : Int)) then ((callT C [.v tI] 18 [.val t0 (List.getD v0 (Int.toNat v1) ((0 : Int), (0 : Int))), .val t0 v3]).bind fun (r1 : Int) => (if (decide (r1 < (0 : Int))) = true then (if (0 ≤ v1 ∧ v1 < ((List.length v0 : Nat) : Int)) then (slices_MinFunc_api_Spot_api_Spot_lp1 C a0 v0 (wr .i64 (v1 + (1 : Int))) v2 (List.getD v0 (Int.toNat v1) ((0 : Int), (0 : Int)))) else none) else (slices_MinFunc_api_Spot_api_Spot_lp1 C a0 v0 (wr .i64 (v1 + (1 : Int))) v2 v3))) else none) else (some [.val t0 v3])) = some r) : slices_MinFunc_api_Spot_api_Spot_lp1 C a0 v0 v1 v2 v3 = some r := lpAt_of (Eq.trans (by kernel_rfl) h)
noncomputable def slices_Index_api_Spot_api_Spot_lp1 (C : CallF) (a0 : (List (Int × Int))) (a1 : (Int × Int)) (v0 : (List (Int × Int))) (v1 : Int) (v2 : Int) (v3 : (Int × Int)) : Option R := lpAt C cf_slices_Index_api_Spot_api_Spot [.val (.sl t0) a0, .val t0 a1] [1, 0, 1, 0] [.d (.val (.sl t0) v0), .d (.undef), .d (.undef), .d (.ptr 100000 0 []), .d (.undef), .d (.undef), .d (.undef), .d (.val tI v1), .d (.val tI v2), .d (.undef), .d (.undef), .d (.undef), .d (.undef), .d (.undef), .d (.undef), .d (.undef), .d (.undef), .d (.undef), .d (.undef)] (ofL [(100000, .box t0 (.val t0 v3))])
theorem slices_Index_api_Spot_api_Spot_st {r : R} (a0 : (List (Int × Int))) (a1 : (Int × Int)) (h : (slices_Index_api_Spot_api_Spot_lp1 CG a0 a1 a0 ((List.length a0 : Nat) : Int) (0 : Int) a1) = some r) : CG 19 [.val (.sl t0) a0, .val t0 a1] = some r := limC_run (f := cf_slices_Index_api_Spot_api_Spot) (by kernel_rfl) (by kernel_rfl) (Eq.trans (by kernel_rfl) h)
theorem slices_Index_api_Spot_api_Spot_lp1_st {C : CallF} {r : R} (a0 : (List (Int × Int))) (a1 : (Int × Int)) (v0 : (List (Int × Int))) (v1 : Int) (v2 : Int) (v3 : (Int × Int)) (h : (if (decide (v2 < v1)) = true then (if (0 ≤ v2 ∧ v2 < ((List.length v0 : Nat) : Int)) then (if ((v3.1 == (List.getD v0 (Int.toNat v2) ((0 : Int), (0 : Int))).1) && (v3.2 == (List.getD v0 (Int.toNat v2) ((0 : Int), (0 : Int))).2)) = true then (some [.val tI v2]) else (slices_Index_api_Spot_api_Spot_lp1 C a0 a1 v0 v1 (wr .i64 (v2 + (1 : Int))) v3)) else none) else (some [.val tI ((-1) : Int)])) = some r) : slices_Index_api_Spot_api_Spot_lp1 C a0 a1 v0 v1 v2 v3 = some r := lpAt_of (Eq.trans (by kernel_rfl) h)
noncomputable def triangle_Split_lp1 (C : CallF) (a0 : (List (Int × Int))) (v0 : (List (Int × Int))) (v1 : (List (List (Int × Int)))) : Option R := lpAt C cf_triangle_Split [.val (.sl t0) a0] [1, 1, 1, 1, 1, 1, 0, 0] [.d (.undef), .d (.undef), .d (.undef), .d (.undef), .d (.ptr 100000 0 []), .d (.undef), .d (.clo 9 [100000]), .d (.clo 10 [100000]), .d (.ref 100001), .d (.undef), .d (.undef), .d (.undef), .d (.undef), .d (.undef), .d (.undef), .d (.undef), .d (.undef), .d (.undef), .d (.undef), .d (.undef), .d (.undef), .d (.undef), .d (.undef), .d (.undef), .d (.undef), .d (.undef), .d (.undef), .d (.undef), .d (.undef), .d (.undef), .d (.undef), .d (.undef), .d (.undef), .d (.undef), .d (.undef), .d (.undef), .d (.undef), .d (.undef), .d (.undef), .d (.undef), .d (.undef), .d (.undef), .d (.undef), .d (.undef), .d (.undef), .d (.undef), .d (.undef), .d (.undef), .d (.undef), .d (.undef), .d (.undef), .d (.undef), .d (.undef), .d (.undef), .d (.undef), .d (.undef), .d (.undef), .d (.undef), .d (.undef), .d (.undef), .d (.undef), .d (.undef), .d (.undef), .d (.undef), .d (.undef), .d (.undef), .d (.undef), .d (.undef), .d (.undef), .d (.undef), .d (.undef), .d (.undef), .d (.undef), .d (.undef), .d (.undef), .d (.undef), .d (.undef), .d (.undef), .d (.undef), .d (.undef), .d (.undef), .d (.undef)] (ofL [(100000, .box (.sl t0) (.val (.sl t0) v0)), (100001, .arr (.sl t0) v1 .lv)])
noncomputable def triangle_Split_lp2 (C : CallF) (a0 : (List (Int × Int))) (v0 : (List (List (Int × Int)))) (v1 : (List (Int × Int))) : Option R := lpAt C cf_triangle_Split [.val (.sl t0) a0] [1, 1, 1, 1, 1, 1, 0, 0] [.d (.undef), .d (.undef), .d (.undef), .d (.undef), .d (.ptr 100000 0 []), .d (.undef), .d (.clo 9 [100000]), .d (.clo 10 [100000]), .d (.ref 100001), .d (.undef), .d (.undef), .d (.undef), .d (.undef), .d (.undef), .d (.undef), .d (.undef), .d (.undef), .d (.undef), .d (.undef), .d (.undef), .d (.undef), .d (.undef), .d (.undef), .d (.undef), .d (.undef), .d (.undef), .d (.undef), .d (.undef), .d (.undef), .d (.undef), .d (.undef), .d (.undef), .d (.undef), .d (.undef), .d (.undef), .d (.undef), .d (.undef), .d (.undef), .d (.undef), .d (.undef), .d (.undef), .d (.undef), .d (.undef), .d (.undef), .d (.undef), .d (.undef), .d (.undef), .d (.undef), .d (.undef), .d (.undef), .d (.undef), .d (.undef), .d (.undef), .d (.undef), .d (.undef), .d (.undef), .d (.undef), .d (.undef), .d (.undef), .d (.undef), .d (.undef), .d (.undef), .d (.undef), .d (.undef), .d (.undef), .d (.undef), .d (.undef), .d (.undef), .d (.undef), .d (.undef), .d (.undef), .d (.undef), .d (.undef), .d (.undef), .d (.undef), .d (.undef), .d (.undef), .d (.undef), .d (.undef), .d (.undef), .d (.undef), .d (.undef)] (ofL [(100000, .box (.sl t0) (.ref 100002)), (100001, .arr (.sl t0) v0 .lv), (100002, .arr t0 v1 .lv)])
theorem triangle_Split_st {r : R} (a0 : (List (Int × Int))) (h : ((callT CG [.v (.sl t0), .v tI] 8 [.val (.sl t0) a0]).bind fun (r1 : (List (Int × Int)) × Int) => (if (r1.2 != (0 : Int)) = true then (some [.own (.sl t0) ([] : List (List (Int × Int))), .val tI r1.2]) else (triangle_Split_lp1 CG a0 r1.1 ([] : List (List (Int × Int)))))) = some r) : CG 6 [.val (.sl t0) a0] = some r := limC_run (f := cf_triangle_Split) (by kernel_rfl) (by kernel_rfl) (Eq.trans (by kernel_rfl) h)
theorem triangle_Split_lp1_st {C : CallF} {r : R} (a0 : (List (Int × Int))) (v0 : (List (Int × Int))) (v1 : (List (List (Int × Int)))) (h : (if (decide (((List.length v0 : Nat) : Int) > (3 : Int))) = true then ((callT C [.v tI] 11 [.val tI ((List.length v0 : Nat) : Int), .cloi 9 [⟨(.sl t0), v0⟩]]).bind fun (r1 : Int) => (if (decide (r1 ≥ (0 : Int))) = true then ((callT C [.o t0] 12 [.val (.sl t0) v0, .val tI r1]).bind fun (r2 : (List (Int × Int))) => (triangle_Split_lp2 C a0 v1 r2)) else ((callT C [.v tI] 11 [.val tI ((List.length v0 : Nat) : Int), .cloi 10 [⟨(.sl t0), v0⟩]]).bind fun (r3 : Int) => (if (decide (r3 < (0 : Int))) = true then (if (0 ≤ (0 : Int) ∧ (0 : Int) < ((List.length v0 : Nat) : Int)) then (if (0 ≤ (1 : Int) ∧ (1 : Int) < ((List.length v0 : Nat) : Int)) then (if (0 ≤ (2 : Int) ∧ (2 : Int) < ((List.length v0 : Nat) : Int)) then (if (List.length v1 + List.length ([([(List.getD v0 (Int.toNat (0 : Int)) ((0 : Int), (0 : Int))), (List.getD v0 (Int.toNat (1 : Int)) ((0 : Int), (0 : Int))), (List.getD v0 (Int.toNat (2 : Int)) ((0 : Int), (0 : Int)))] : List (Int × Int))] : List (List (Int × Int))) < 5864062014805) then (some [.own (.sl t0) (v1 ++ ([([(List.getD v0 (Int.toNat (0 : Int)) ((0 : Int), (0 : Int))), (List.getD v0 (Int.toNat (1 : Int)) ((0 : Int), (0 : Int))), (List.getD v0 (Int.toNat (2 : Int)) ((0 : Int), (0 : Int)))] : List (Int × Int))] : List (List (Int × Int)))), .val tI (0 : Int)]) else none) else none) else none) else none) else (if (((List.length v0 : Nat) : Int) ≠ 0) then (if (0 ≤ (Int.tmod (wr .i64 ((wr .i64 (r3 + ((List.length v0 : Nat) : Int))) - (1 : Int))) ((List.length v0 : Nat) : Int)) ∧ (Int.tmod (wr .i64 ((wr .i64 (r3 + ((List.length v0 : Nat) : Int))) - (1 : Int))) ((List.length v0 : Nat) : Int)) < ((List.length v0 : Nat) : Int)) then (if (0 ≤ r3 ∧ r3 < ((List.length v0 : Nat) : Int)) then (if (((List.length v0 : Nat) : Int) ≠ 0) then (if (0 ≤ (Int.tmod (wr .i64 (r3 + (1 : Int))) ((List.length v0 : Nat) : Int)) ∧ (Int.tmod (wr .i64 (r3 + (1 : Int))) ((List.length v0 : Nat) : Int)) < ((List.length v0 : Nat) : Int)) then (if (List.length v1 + List.length ([([(List.getD v0 (Int.toNat (Int.tmod (wr .i64 ((wr .i64 (r3 + ((List.length v0 : Nat) : Int))) - (1 : Int))) ((List.length v0 : Nat) : Int))) ((0 : Int), (0 : Int))), (List.getD v0 (Int.toNat r3) ((0 : Int), (0 : Int))), (List.getD v0 (Int.toNat (Int.tmod (wr .i64 (r3 + (1 : Int))) ((List.length v0 : Nat) : Int))) ((0 : Int), (0 : Int)))] : List (Int × Int))] : List (List (Int × Int))) < 5864062014805) then ((callT C [.o t0] 12 [.val (.sl t0) v0, .val tI r3]).bind fun (r4 : (List (Int × Int))) => (triangle_Split_lp2 C a0 (v1 ++ ([([(List.getD v0 (Int.toNat (Int.tmod (wr .i64 ((wr .i64 (r3 + ((List.length v0 : Nat) : Int))) - (1 : Int))) ((List.length v0 : Nat) : Int))) ((0 : Int), (0 : Int))), (List.getD v0 (Int.toNat r3) ((0 : Int), (0 : Int))), (List.getD v0 (Int.toNat (Int.tmod (wr .i64 (r3 + (1 : Int))) ((List.length v0 : Nat) : Int))) ((0 : Int), (0 : Int)))] : List (Int × Int))] : List (List (Int × Int)))) r4)) else none) else none) else none) else none) else none) else none))))) else (if (0 ≤ (0 : Int) ∧ (0 : Int) < ((List.length v0 : Nat) : Int)) then (if (0 ≤ (1 : Int) ∧ (1 : Int) < ((List.length v0 : Nat) : Int)) then (if (0 ≤ (2 : Int) ∧ (2 : Int) < ((List.length v0 : Nat) : Int)) then (if (List.length v1 + List.length ([([(List.getD v0 (Int.toNat (0 : Int)) ((0 : Int), (0 : Int))), (List.getD v0 (Int.toNat (1 : Int)) ((0 : Int), (0 : Int))), (List.getD v0 (Int.toNat (2 : Int)) ((0 : Int), (0 : Int)))] : List (Int × Int))] : List (List (Int × Int))) < 5864062014805) then (some [.own (.sl t0) (v1 ++ ([([(List.getD v0 (Int.toNat (0 : Int)) ((0 : Int), (0 : Int))), (List.getD v0 (Int.toNat (1 : Int)) ((0 : Int), (0 : Int))), (List.getD v0 (Int.toNat (2 : Int)) ((0 : Int), (0 : Int)))] : List (Int × Int))] : List (List (Int × Int)))), .val tI (0 : Int)]) else none) else none) else none) else none)) = some r) : triangle_Split_lp1 C a0 v0 v1 = some r := lpAt_of (Eq.trans (by kernel_rfl) h)
theorem triangle_Split_lp2_st {C : CallF} {r : R} (a0 : (List (Int × Int))) (v0 : (List (List (Int × Int)))) (v1 : (List (Int × Int))) (h : (if (decide (((List.length v1 : Nat) : Int) > (3 : Int))) = true then ((callT C [.v tI] 11 [.val tI ((List.length v1 : Nat) : Int), .cloi 9 [⟨(.sl t0), v1⟩]]).bind fun (r1 : Int) => (if (decide (r1 ≥ (0 : Int))) = true then ((callT C [.o t0] 12 [.val (.sl t0) v1, .val tI r1]).bind fun (r2 : (List (Int × Int))) => (triangle_Split_lp2 C a0 v0 r2)) else ((callT C [.v tI] 11 [.val tI ((List.length v1 : Nat) : Int), .cloi 10 [⟨(.sl t0), v1⟩]]).bind fun (r3 : Int) => (if (decide (r3 < (0 : Int))) = true then (if (0 ≤ (0 : Int) ∧ (0 : Int) < ((List.length v1 : Nat) : Int)) then (if (0 ≤ (1 : Int) ∧ (1 : Int) < ((List.length v1 : Nat) : Int)) then (if (0 ≤ (2 : Int) ∧ (2 : Int) < ((List.length v1 : Nat) : Int)) then (if (List.length v0 + List.length ([([(List.getD v1 (Int.toNat (0 : Int)) ((0 : Int), (0 : Int))), (List.getD v1 (Int.toNat (1 : Int)) ((0 : Int), (0 : Int))), (List.getD v1 (Int.toNat (2 : Int)) ((0 : Int), (0 : Int)))] : List (Int × Int))] : List (List (Int × Int))) < 5864062014805) then (some [.own (.sl t0) (v0 ++ ([([(List.getD v1 (Int.toNat (0 : Int)) ((0 : Int), (0 : Int))), (List.getD v1 (Int.toNat (1 : Int)) ((0 : Int), (0 : Int))), (List.getD v1 (Int.toNat (2 : Int)) ((0 : Int), (0 : Int)))] : List (Int × Int))] : List (List (Int × Int)))), .val tI (0 : Int)]) else none) else none) else none) else none) else (if (((List.length v1 : Nat) : Int) ≠ 0) then (if (0 ≤ (Int.tmod (wr .i64 ((wr .i64 (r3 + ((List.length v1 : Nat) : Int))) - (1 : Int))) ((List.length v1 : Nat) : Int)) ∧ (Int.tmod (wr .i64 ((wr .i64 (r3 + ((List.length v1 : Nat) : Int))) - (1 : Int))) ((List.length v1 : Nat) : Int)) < ((List.length v1 : Nat) : Int)) then (if (0 ≤ r3 ∧ r3 < ((List.length v1 : Nat) : Int)) then (if (((List.length v1 : Nat) : Int) ≠ 0) then (if (0 ≤ (Int.tmod (wr .i64 (r3 + (1 : Int))) ((List.length v1 : Nat) : Int)) ∧ (Int.tmod (wr .i64 (r3 + (1 : Int))) ((List.length v1 : Nat) : Int)) < ((List.length v1 : Nat) : Int)) then (if (List.length v0 + List.length ([([(List.getD v1 (Int.toNat (Int.tmod (wr .i64 ((wr .i64 (r3 + ((List.length v1 : Nat) : Int))) - (1 : Int))) ((List.length v1 : Nat) : Int))) ((0 : Int), (0 : Int))), (List.getD v1 (Int.toNat r3) ((0 : Int), (0 : Int))), (List.getD v1 (Int.toNat (Int.tmod (wr .i64 (r3 + (1 : Int))) ((List.length v1 : Nat) : Int))) ((0 : Int), (0 : Int)))] : List (Int × Int))] : List (List (Int × Int))) < 5864062014805) then ((callT C [.o t0] 12 [.val (.sl t0) v1, .val tI r3]).bind fun (r4 : (List (Int × Int))) => (triangle_Split_lp2 C a0 (v0 ++ ([([(List.getD v1 (Int.toNat (Int.tmod (wr .i64 ((wr .i64 (r3 + ((List.length v1 : Nat) : Int))) - (1 : Int))) ((List.length v1 : Nat) : Int))) ((0 : Int), (0 : Int))), (List.getD v1 (Int.toNat r3) ((0 : Int), (0 : Int))), (List.getD v1 (Int.toNat (Int.tmod (wr .i64 (r3 + (1 : Int))) ((List.length v1 : Nat) : Int))) ((0 : Int), (0 : Int)))] : List (Int × Int))] : List (List (Int × Int)))) r4)) else none) else none) else none) else none) else none) else none))))) else (if (0 ≤ (0 : Int) ∧ (0 : Int) < ((List.length v1 : Nat) : Int)) then (if (0 ≤ (1 : Int) ∧ (1 : Int) < ((List.length v1 : Nat) : Int)) then (if (0 ≤ (2 : Int) ∧ (2 : Int) < ((List.length v1 : Nat) : Int)) then (if (List.length v0 + List.length ([([(List.getD v1 (Int.toNat (0 : Int)) ((0 : Int), (0 : Int))), (List.getD v1 (Int.toNat (1 : Int)) ((0 : Int), (0 : Int))), (List.getD v1 (Int.toNat (2 : Int)) ((0 : Int), (0 : Int)))] : List (Int × Int))] : List (List (Int × Int))) < 5864062014805) then (some [.own (.sl t0) (v0 ++ ([([(List.getD v1 (Int.toNat (0 : Int)) ((0 : Int), (0 : Int))), (List.getD v1 (Int.toNat (1 : Int)) ((0 : Int), (0 : Int))), (List.getD v1 (Int.toNat (2 : Int)) ((0 : Int), (0 : Int)))] : List (Int × Int))] : List (List (Int × Int)))), .val tI (0 : Int)]) else none) else none) else none) else none)) = some r) : triangle_Split_lp2 C a0 v0 v1 = some r := lpAt_of (Eq.trans (by kernel_rfl) h)
theorem triangle_cross_st {r : R} (a0 : (Int × Int)) (a1 : (Int × Int)) (a2 : (Int × Int)) (h : (some [.val tI (wr .i64 ((wr .i64 ((wr .i64 (a1.1 - a0.1)) * (wr .i64 (a2.2 - a0.2)))) - (wr .i64 ((wr .i64 (a1.2 - a0.2)) * (wr .i64 (a2.1 - a0.1))))))]) = some r) : CG 27 [.val t0 a0, .val t0 a1, .val t0 a2] = some r := limC_run (f := cf_triangle_cross) (by kernel_rfl) (by kernel_rfl) (Eq.trans (by kernel_rfl) h)
theorem triangle_covers_st {r : R} (a0 : (Int × Int)) (a1 : (Int × Int)) (a2 : (Int × Int)) (a3 : (Int × Int)) (h : ((callT CG [.v tI] 27 [.val t0 a0, .val t0 a1, .val t0 a3]).bind fun (r1 : Int) => (if (decide (r1 ≥ (0 : Int))) = true then ((callT CG [.v tI] 27 [.val t0 a1, .val t0 a2, .val t0 a3]).bind fun (r2 : Int) => (if (decide (r2 ≥ (0 : Int))) = true then ((callT CG [.v tI] 27 [.val t0 a2, .val t0 a0, .val t0 a3]).bind fun (r3 : Int) => (some [.val .bool (decide (r3 ≥ (0 : Int)))])) else (some [.val .bool false]))) else (some [.val .bool false]))) = some r) : CG 28 [.val t0 a0, .val t0 a1, .val t0 a2, .val t0 a3] = some r := limC_run (f := cf_triangle_covers) (by kernel_rfl) (by kernel_rfl) (Eq.trans (by kernel_rfl) h)
noncomputable def triangle_find_lp1 (C : CallF) (a0 : Int) (a1_0 : (List (Int × Int))) (v0 : Int) (v1 : (List (Int × Int))) (v2 : Int) (v3 : Int) : Option R := lpAt C cf_triangle_find [.val tI a0, .cloi 9 [⟨(.sl t0), a1_0⟩]] [1, 0, 1, 0] [.d (.val tI v0), .d (.cloi 9 [⟨(.sl t0), v1⟩]), .d (.undef), .d (.undef), .d (.undef), .d (.undef), .d (.val tI v2), .d (.val tI v3), .d (.undef), .d (.undef), .d (.undef), .d (.undef), .d (.undef), .d (.undef), .d (.undef), .d (.undef), .d (.undef), .d (.undef), .d (.undef), .d (.undef), .d (.undef), .d (.undef), .d (.undef), .d (.undef), .d (.undef)] (ofL [])
theorem triangle_find_st {r : R} (a0 : Int) (a1_0 : (List (Int × Int))) (h : (triangle_find_lp1 CG a0 a1_0 a0 a1_0 a0 (0 : Int)) = some r) : CG 11 [.val tI a0, .cloi 9 [⟨(.sl t0), a1_0⟩]] = some r := limC_run (f := cf_triangle_find) (by kernel_rfl) (by kernel_rfl) (Eq.trans (by kernel_rfl) h)
theorem triangle_find_lp1_st {C : CallF} {r : R} (a0 : Int) (a1_0 : (List (Int × Int))) (v0 : Int) (v1 : (List (Int × Int))) (v2 : Int) (v3 : Int) (h : (if (decide (v3 < v2)) = true then (if (v0 ≠ 0) then (if (v0 ≠ 0) then ((callT C [.v .bool] 9 [.val tI (Int.tmod (wr .i64 ((wr .i64 (v3 + v0)) - (1 : Int))) v0), .val tI v3, .val tI (Int.tmod (wr .i64 (v3 + (1 : Int))) v0), .iptr (.sl t0) v1]).bind fun (r1 : Bool) => (if r1 = true then (some [.val tI v3]) else (triangle_find_lp1 C a0 a1_0 v0 v1 v2 (wr .i64 (v3 + (1 : Int)))))) else none) else none) else (some [.val tI ((-1) : Int)])) = some r) : triangle_find_lp1 C a0 a1_0 v0 v1 v2 v3 = some r := lpAt_of (Eq.trans (by kernel_rfl) h)
theorem triangle_without_st {r : R} (a0 : (List (Int × Int))) (a1 : Int) (h : (if (0 ≤ (wr .i64 (((List.length a0 : Nat) : Int) - (1 : Int))) ∧ (wr .i64 (((List.length a0 : Nat) : Int) - (1 : Int))) ≤ (wr .i64 (((List.length a0 : Nat) : Int) - (1 : Int))) ∧ (wr .i64 (((List.length a0 : Nat) : Int) - (1 : Int))) ≤ ((17592186044416 : Nat) : Int)) then (if (0 ≤ a1 ∧ a1 ≤ ((List.length a0 : Nat) : Int)) then (if (0 ≤ a1 ∧ a1 ≤ ((List.length (copyTo (List.replicate (Int.toNat (wr .i64 (((List.length a0 : Nat) : Int) - (1 : Int)))) ((0 : Int), (0 : Int))) 0 (List.take (Int.toNat a1) a0)) : Nat) : Int)) then (if (0 ≤ (wr .i64 (a1 + (1 : Int))) ∧ (wr .i64 (a1 + (1 : Int))) ≤ ((List.length a0 : Nat) : Int)) then (some [.own t0 (copyTo (copyTo (List.replicate (Int.toNat (wr .i64 (((List.length a0 : Nat) : Int) - (1 : Int)))) ((0 : Int), (0 : Int))) 0 (List.take (Int.toNat a1) a0)) (Int.toNat a1) (List.drop (Int.toNat (wr .i64 (a1 + (1 : Int)))) a0))]) else none) else none) else none) else none) = some r) : CG 12 [.val (.sl t0) a0, .val tI a1] = some r := limC_run (f := cf_triangle_without) (by kernel_rfl) (by kernel_rfl) (Eq.trans (by kernel_rfl) h)
noncomputable def triangle_find_1_lp1 (C : CallF) (a0 : Int) (a1_0 : (List (Int × Int))) (v0 : Int) (v1 : (List (Int × Int))) (v2 : Int) (v3 : Int) : Option R := lpAt C cf_triangle_find [.val tI a0, .cloi 10 [⟨(.sl t0), a1_0⟩]] [1, 0, 1, 0] [.d (.val tI v0), .d (.cloi 10 [⟨(.sl t0), v1⟩]), .d (.undef), .d (.undef), .d (.undef), .d (.undef), .d (.val tI v2), .d (.val tI v3), .d (.undef), .d (.undef), .d (.undef), .d (.undef), .d (.undef), .d (.undef), .d (.undef), .d (.undef), .d (.undef), .d (.undef), .d (.undef), .d (.undef), .d (.undef), .d (.undef), .d (.undef), .d (.undef), .d (.undef)] (ofL [])
theorem triangle_find_1_st {r : R} (a0 : Int) (a1_0 : (List (Int × Int))) (h : (triangle_find_1_lp1 CG a0 a1_0 a0 a1_0 a0 (0 : Int)) = some r) : CG 11 [.val tI a0, .cloi 10 [⟨(.sl t0), a1_0⟩]] = some r := limC_run (f := cf_triangle_find) (by kernel_rfl) (by kernel_rfl) (Eq.trans (by kernel_rfl) h)
theorem triangle_find_1_lp1_st {C : CallF} {r : R} (a0 : Int) (a1_0 : (List (Int × Int))) (v0 : Int) (v1 : (List (Int × Int))) (v2 : Int) (v3 : Int) (h : (if (decide (v3 < v2)) = true then (if (v0 ≠ 0) then (if (v0 ≠ 0) then ((callT C [.v .bool] 10 [.val tI (Int.tmod (wr .i64 ((wr .i64 (v3 + v0)) - (1 : Int))) v0), .val tI v3, .val tI (Int.tmod (wr .i64 (v3 + (1 : Int))) v0), .iptr (.sl t0) v1]).bind fun (r1 : Bool) => (if r1 = true then (some [.val tI v3]) else (triangle_find_1_lp1 C a0 a1_0 v0 v1 v2 (wr .i64 (v3 + (1 : Int)))))) else none) else none) else (some [.val tI ((-1) : Int)])) = some r) : triangle_find_1_lp1 C a0 a1_0 v0 v1 v2 v3 = some r := lpAt_of (Eq.trans (by kernel_rfl) h)
theorem triangle_Split_1_st {r : R} (a0 : Int) (a1 : Int) (a2 : Int) (a3 : (List (Int × Int))) (h : (if (0 ≤ a0 ∧ a0 < ((List.length a3 : Nat) : Int)) then (if (0 ≤ a1 ∧ a1 < ((List.length a3 : Nat) : Int)) then (if (0 ≤ a2 ∧ a2 < ((List.length a3 : Nat) : Int)) then ((callT CG [.v tI] 27 [.val t0 (List.getD a3 (Int.toNat a0) ((0 : Int), (0 : Int))), .val t0 (List.getD a3 (Int.toNat a1) ((0 : Int), (0 : Int))), .val t0 (List.getD a3 (Int.toNat a2) ((0 : Int), (0 : Int)))]).bind fun (r1 : Int) => (some [.val .bool (r1 == (0 : Int))])) else none) else none) else none) = some r) : CG 9 [.val tI a0, .val tI a1, .val tI a2, .iptr (.sl t0) a3] = some r := limC_run (f := cf_triangle_Split_1) (by kernel_rfl) (by kernel_rfl) (Eq.trans (by kernel_rfl) h)
noncomputable def triangle_Split_2_lp1 (C : CallF) (a0 : Int) (a1 : Int) (a2 : Int) (a3 : (List (Int × Int))) (v0 : Int) (v1 : Int) (v2 : Int) (v3 : (List (Int × Int))) (v4 : (List (Int × Int))) (v5 : Int) (v6 : Int) : Option R := lpAt C cf_triangle_Split_2 [.val tI a0, .val tI a1, .val tI a2, .iptr (.sl t0) a3] [1, 1, 0, 1, 0] [.d (.val tI v0), .d (.val tI v1), .d (.val tI v2), .d (.iptr (.sl t0) v3), .d (.undef), .d (.undef), .d (.undef), .d (.undef), .d (.undef), .d (.undef), .d (.undef), .d (.undef), .d (.undef), .d (.undef), .d (.undef), .d (.undef), .d (.undef), .d (.undef), .d (.undef), .d (.undef), .d (.undef), .d (.undef), .d (.undef), .d (.undef), .d (.val (.sl t0) v4), .d (.val tI v5), .d (.val tI v6), .d (.undef), .d (.undef), .d (.undef), .d (.undef), .d (.undef), .d (.undef), .d (.undef), .d (.undef), .d (.undef), .d (.undef), .d (.undef), .d (.undef), .d (.undef), .d (.undef), .d (.undef), .d (.undef), .d (.undef), .d (.undef), .d (.undef), .d (.undef), .d (.undef), .d (.undef), .d (.undef), .d (.undef), .d (.undef), .d (.undef), .d (.undef), .d (.undef), .d (.undef), .d (.undef), .d (.undef), .d (.undef), .d (.undef), .d (.undef)] (ofL [])
theorem triangle_Split_2_st {r : R} (a0 : Int) (a1 : Int) (a2 : Int) (a3 : (List (Int × Int))) (h : (if (0 ≤ a0 ∧ a0 < ((List.length a3 : Nat) : Int)) then (if (0 ≤ a1 ∧ a1 < ((List.length a3 : Nat) : Int)) then (if (0 ≤ a2 ∧ a2 < ((List.length a3 : Nat) : Int)) then ((callT CG [.v tI] 27 [.val t0 (List.getD a3 (Int.toNat a0) ((0 : Int), (0 : Int))), .val t0 (List.getD a3 (Int.toNat a1) ((0 : Int), (0 : Int))), .val t0 (List.getD a3 (Int.toNat a2) ((0 : Int), (0 : Int)))]).bind fun (r1 : Int) => (if (decide (r1 ≤ (0 : Int))) = true then (some [.val .bool false]) else (triangle_Split_2_lp1 CG a0 a1 a2 a3 a0 a1 a2 a3 a3 ((List.length a3 : Nat) : Int) (0 : Int)))) else none) else none) else none) = some r) : CG 10 [.val tI a0, .val tI a1, .val tI a2, .iptr (.sl t0) a3] = some r := limC_run (f := cf_triangle_Split_2) (by kernel_rfl) (by kernel_rfl) (Eq.trans (by kernel_rfl) h)
theorem triangle_Split_2_lp1_st {C : CallF} {r : R} (a0 : Int) (a1 : Int) (a2 : Int) (a3 : (List (Int × Int))) (v0 : Int) (v1 : Int) (v2 : Int) (v3 : (List (Int × Int))) (v4 : (List (Int × Int))) (v5 : Int) (v6 : Int) (h : (if (decide (v6 < v5)) = true then (if (0 ≤ v6 ∧ v6 < ((List.length v4 : Nat) : Int)) then (if (v6 != v0) = true then (if (v6 != v1) = true then (if (v6 != v2) = true then (if (0 ≤ v0 ∧ v0 < ((List.length v3 : Nat) : Int)) then (if (0 ≤ v1 ∧ v1 < ((List.length v3 : Nat) : Int)) then (if (0 ≤ v2 ∧ v2 < ((List.length v3 : Nat) : Int)) then ((callT C [.v .bool] 28 [.val t0 (List.getD v3 (Int.toNat v0) ((0 : Int), (0 : Int))), .val t0 (List.getD v3 (Int.toNat v1) ((0 : Int), (0 : Int))), .val t0 (List.getD v3 (Int.toNat v2) ((0 : Int), (0 : Int))), .val t0 (List.getD v4 (Int.toNat v6) ((0 : Int), (0 : Int)))]).bind fun (r1 : Bool) => (if r1 = true then (some [.val .bool false]) else (triangle_Split_2_lp1 C a0 a1 a2 a3 v0 v1 v2 v3 v4 v5 (wr .i64 (v6 + (1 : Int)))))) else none) else none) else none) else (triangle_Split_2_lp1 C a0 a1 a2 a3 v0 v1 v2 v3 v4 v5 (wr .i64 (v6 + (1 : Int))))) else (triangle_Split_2_lp1 C a0 a1 a2 a3 v0 v1 v2 v3 v4 v5 (wr .i64 (v6 + (1 : Int))))) else (triangle_Split_2_lp1 C a0 a1 a2 a3 v0 v1 v2 v3 v4 v5 (wr .i64 (v6 + (1 : Int))))) else none) else (some [.val .bool true])) = some r) : triangle_Split_2_lp1 C a0 a1 a2 a3 v0 v1 v2 v3 v4 v5 v6 = some r := lpAt_of (Eq.trans (by kernel_rfl) h)
end Pm
end
section
/- Polygons on the grid: what the program computes, over lists of pairs of whole numbers. -/
namespace Geo
abbrev IP := Int × Int
/-- twice the signed area of a triangle -/
def crI (a b c : IP) : Int := (b.1 - a.1) * (c.2 - a.2) - (b.2 - a.2) * (c.1 - a.1)
def BetI (a b q : IP) : Prop := crI a b q = 0 ∧ (min a.1 b.1 ≤ q.1 ∧ q.1 ≤ max a.1 b.1) ∧ (min a.2 b.2 ≤ q.2 ∧ q.2 ≤ max a.2 b.2)
def DivI (a b p q : IP) : Prop := (crI a b p < 0 ∧ 0 < crI a b q) ∨ (0 < crI a b p ∧ crI a b q < 0)
def MeetI (a b c d : IP) : Prop := BetI a b c ∨ BetI a b d ∨ BetI c d a ∨ BetI c d b ∨ (DivI a b c d ∧ DivI c d a b)
def nth (P : List IP) (i : Nat) : IP := P.getD (i % P.length) (0, 0)
/-- the program's test of a simple polygon -/
def SimpI (P : List IP) : Prop := ∀ i, i < P.length → nth P i ≠ nth P (i + 1) ∧ ¬ BetI (nth P i) (nth P (i + 1)) (nth P (i + 2)) ∧ ¬ BetI (nth P (i + 1)) (nth P (i + 2)) (nth P i) ∧
  ∀ k, i + 2 ≤ k → k < P.length → ¬ (i = 0 ∧ k = P.length - 1) → ¬ MeetI (nth P i) (nth P (i + 1)) (nth P k) (nth P (k + 1))
def insI (n : Int) : Prop := -1048576 ≤ n ∧ n ≤ 1048576
instance (n : Int) : Decidable (insI n) := inferInstanceAs (Decidable (_ ∧ _))
def InsI (P : List IP) : Prop := ∀ s ∈ P, insI s.1 ∧ insI s.2
open Classical in
noncomputable def chk (P : List IP) : Int := if 40 < P.length then 5 else if P.length < 3 then 11 else if ¬ InsI P then 3 else if SimpI P then 0 else 11
theorem chk_ok {P : List IP} : chk P = 0 ↔ P.length ≤ 40 ∧ 3 ≤ P.length ∧ InsI P ∧ SimpI P := by
  unfold chk
  constructor
  · intro h
    split at h
    · simp at h
    · split at h
      · simp at h
      · split at h
        · simp at h
        · split at h
          · rename_i h1 h2 h3 h4
            exact ⟨by omega, by omega, Classical.not_not.1 h3, h4⟩
          · simp at h
  · rintro ⟨h1, h2, h3, h4⟩
    rw [if_neg (by omega), if_neg (by omega), if_neg (by simpa using h3), if_pos h4]
def minX (P : List IP) : Int := P.foldl (fun m s => min m s.1) (P.headD (0, 0)).1
def maxX (P : List IP) : Int := P.foldl (fun m s => max m s.1) (P.headD (0, 0)).1
def minY (P : List IP) : Int := P.foldl (fun m s => min m s.2) (P.headD (0, 0)).2
def maxY (P : List IP) : Int := P.foldl (fun m s => max m s.2) (P.headD (0, 0)).2
theorem foldl_min (f : IP → Int) (l : List IP) (m : Int) : (l.foldl (fun m s => min m (f s)) m ≤ m) ∧ (∀ s ∈ l, l.foldl (fun m s => min m (f s)) m ≤ f s) ∧
    (l.foldl (fun m s => min m (f s)) m = m ∨ ∃ s ∈ l, l.foldl (fun m s => min m (f s)) m = f s) := by
  induction l generalizing m with
  | nil => simp
  | cons a l ih =>
    obtain ⟨h1, h2, h3⟩ := ih (min m (f a))
    simp only [List.foldl_cons, List.mem_cons, forall_eq_or_imp, exists_eq_or_imp]
    refine ⟨by omega, ⟨by omega, h2⟩, ?_⟩
    rcases h3 with h3 | h3
    · rw [h3]; omega
    · exact Or.inr (Or.inr h3)
theorem foldl_max (f : IP → Int) (l : List IP) (m : Int) : (m ≤ l.foldl (fun m s => max m (f s)) m) ∧ (∀ s ∈ l, f s ≤ l.foldl (fun m s => max m (f s)) m) ∧
    (l.foldl (fun m s => max m (f s)) m = m ∨ ∃ s ∈ l, l.foldl (fun m s => max m (f s)) m = f s) := by
  induction l generalizing m with
  | nil => simp
  | cons a l ih =>
    obtain ⟨h1, h2, h3⟩ := ih (max m (f a))
    simp only [List.foldl_cons, List.mem_cons, forall_eq_or_imp, exists_eq_or_imp]
    refine ⟨by omega, ⟨by omega, h2⟩, ?_⟩
    rcases h3 with h3 | h3
    · rw [h3]; omega
    · exact Or.inr (Or.inr h3)
theorem headD_mem {P : List IP} (h : P ≠ []) : P.headD (0, 0) ∈ P := by
  cases P with
  | nil => exact absurd rfl h
  | cons a l => simp
theorem minX_spec {P : List IP} (h : P ≠ []) : (∀ s ∈ P, minX P ≤ s.1) ∧ ∃ s ∈ P, minX P = s.1 := by
  obtain ⟨_, h2, h3⟩ := foldl_min (·.1) P (P.headD (0, 0)).1
  exact ⟨h2, h3.elim (fun e => ⟨_, headD_mem h, e⟩) id⟩
theorem minY_spec {P : List IP} (h : P ≠ []) : (∀ s ∈ P, minY P ≤ s.2) ∧ ∃ s ∈ P, minY P = s.2 := by
  obtain ⟨_, h2, h3⟩ := foldl_min (·.2) P (P.headD (0, 0)).2
  exact ⟨h2, h3.elim (fun e => ⟨_, headD_mem h, e⟩) id⟩
theorem maxX_spec {P : List IP} (h : P ≠ []) : (∀ s ∈ P, s.1 ≤ maxX P) ∧ ∃ s ∈ P, maxX P = s.1 := by
  obtain ⟨_, h2, h3⟩ := foldl_max (·.1) P (P.headD (0, 0)).1
  exact ⟨h2, h3.elim (fun e => ⟨_, headD_mem h, e⟩) id⟩
theorem maxY_spec {P : List IP} (h : P ≠ []) : (∀ s ∈ P, s.2 ≤ maxY P) ∧ ∃ s ∈ P, maxY P = s.2 := by
  obtain ⟨_, h2, h3⟩ := foldl_max (·.2) P (P.headD (0, 0)).2
  exact ⟨h2, h3.elim (fun e => ⟨_, headD_mem h, e⟩) id⟩
theorem prod_bound {x y M : Int} (h1 : -M ≤ x) (h2 : x ≤ M) (h3 : -M ≤ y) (h4 : y ≤ M) : -(M * M) ≤ x * y ∧ x * y ≤ M * M := by
  have hM : 0 ≤ M := by omega
  have a := Int.mul_nonneg (show 0 ≤ M - x by omega) (show 0 ≤ M + y by omega)
  have b := Int.mul_nonneg (show 0 ≤ M + x by omega) (show 0 ≤ M - y by omega)
  have c := Int.mul_nonneg (show 0 ≤ M - x by omega) (show 0 ≤ M - y by omega)
  have d := Int.mul_nonneg (show 0 ≤ M + x by omega) (show 0 ≤ M + y by omega)
  constructor <;> grind
theorem nth_in {P : List IP} (h : P ≠ []) (i : Nat) : nth P i ∈ P := by
  have hl : 0 < P.length := List.length_pos_iff.2 h
  have hm := Nat.mod_lt i hl
  have : P.getD (i % P.length) (0, 0) = P[i % P.length] := by simp [List.getD, hm]
  unfold nth
  rw [this]
  exact List.getElem_mem _
end Geo
end
section
/- Polygons on the grid: sums along the sides, the position of a point, the area; the opposite order. -/
namespace Geo
def sumN (f : Nat → Int) : Nat → Int
  | 0 => 0
  | n + 1 => sumN f n + f n
theorem sumN_congr {f g : Nat → Int} {n : Nat} (h : ∀ i, i < n → f i = g i) : sumN f n = sumN g n := by
  induction n with
  | zero => rfl
  | succ n ih => rw [sumN, sumN, ih (fun i hi => h i (by omega)), h n (by omega)]
theorem sumN_neg (f : Nat → Int) (n : Nat) : sumN (fun i => -f i) n = -sumN f n := by
  induction n with
  | zero => rfl
  | succ n ih => rw [sumN, sumN, ih]; omega
theorem sumN_add (f g : Nat → Int) (n : Nat) : sumN (fun i => f i + g i) n = sumN f n + sumN g n := by
  induction n with
  | zero => rfl
  | succ n ih => rw [sumN, sumN, sumN, ih]; omega
theorem sumN_bound {f : Nat → Int} {B : Int} {n : Nat} (h : ∀ i, i < n → -B ≤ f i ∧ f i ≤ B) : -(n * B) ≤ sumN f n ∧ sumN f n ≤ n * B := by
  induction n with
  | zero => simp [sumN]
  | succ n ih =>
    have a := ih (fun i hi => h i (by omega))
    have b := h n (by omega)
    rw [sumN]
    push_cast
    rw [Int.add_mul]
    omega
theorem sumN_head (f : Nat → Int) (n : Nat) : sumN f (n + 1) = f 0 + sumN (fun i => f (i + 1)) n := by
  induction n with
  | zero => simp [sumN]
  | succ n ih => rw [sumN, ih, sumN]; omega
theorem sumN_rev (f : Nat → Int) (n : Nat) : sumN (fun i => f (n - 1 - i)) n = sumN f n := by
  induction n with
  | zero => rfl
  | succ n ih =>
    rw [sumN_head, sumN]
    have : sumN (fun i => f (n + 1 - 1 - (i + 1))) n = sumN (fun i => f (n - 1 - i)) n := sumN_congr (fun i hi => by congr 1; omega)
    rw [this, ih]
    show f (n + 1 - 1 - 0) + _ = _
    simp only [Nat.add_sub_cancel, Nat.sub_zero]
    omega
theorem sumN_shift {f : Nat → Int} {n : Nat} (h : ∀ i, f (i + n) = f i) (m : Nat) : sumN (fun i => f (i + m)) n = sumN f n := by
  induction m with
  | zero => rfl
  | succ m ih =>
    rw [← ih]
    have e1 := sumN_head (fun i => f (i + m)) n
    rw [sumN] at e1
    have e2 : f (n + m) = f (0 + m) := by rw [Nat.add_comm n m, Nat.zero_add]; exact h m
    have e3 : sumN (fun i => f (i + 1 + m)) n = sumN (fun i => f (i + (m + 1))) n := sumN_congr (fun i _ => by congr 1; omega)
    have e4 : sumN (fun i => (fun i => f (i + m)) (i + 1)) n = sumN (fun i => f (i + 1 + m)) n := rfl
    have e5 : (fun i => f (i + m)) n = f (n + m) := rfl
    have e6 : (fun i => f (i + m)) 0 = f (0 + m) := rfl
    omega
theorem nth_per (P : List IP) (i : Nat) : nth P (i + P.length) = nth P i := by unfold nth; rw [Nat.add_mod_right]
theorem nth_modl (P : List IP) (i : Nat) : nth P (i % P.length) = nth P i := by unfold nth; rw [Nat.mod_mod]
/-- the term of a side in the sum of the area -/
def trap (a b : IP) : Int := (b.1 - a.1) * (a.2 + b.2)
def areaI (P : List IP) : Int := -sumN (fun i => trap (nth P i) (nth P (i + 1))) P.length
/-- how a side turns about a point -/
def wsd (a b q : IP) : Int := if a.2 ≤ q.2 ∧ b.2 > q.2 ∧ crI a b q > 0 then 1 else if a.2 > q.2 ∧ b.2 ≤ q.2 ∧ crI a b q < 0 then -1 else 0
def wndI (P : List IP) (q : IP) : Int := sumN (fun i => wsd (nth P i) (nth P (i + 1)) q) P.length
def OnI (P : List IP) (q : IP) : Prop := ∃ i, i < P.length ∧ BetI (nth P i) (nth P (i + 1)) q
theorem cr_flip (a b q : IP) : crI b a q = -crI a b q := by unfold crI; grind
theorem bet_flip {a b q : IP} : BetI b a q ↔ BetI a b q := by
  unfold BetI
  rw [cr_flip]
  omega
theorem div_flip {a b p q : IP} : DivI b a p q ↔ DivI a b p q := by unfold DivI; rw [cr_flip a b p, cr_flip a b q]; omega
theorem div_swap {a b p q : IP} : DivI a b q p ↔ DivI a b p q := by unfold DivI; omega
theorem meet_symm {a b c d : IP} : MeetI c d a b ↔ MeetI a b c d := by
  unfold MeetI
  constructor
  · rintro (h | h | h | h | ⟨h, k⟩)
    · exact .inr (.inr (.inl h))
    · exact .inr (.inr (.inr (.inl h)))
    · exact .inl h
    · exact .inr (.inl h)
    · exact .inr (.inr (.inr (.inr ⟨k, h⟩)))
  · rintro (h | h | h | h | ⟨h, k⟩)
    · exact .inr (.inr (.inl h))
    · exact .inr (.inr (.inr (.inl h)))
    · exact .inl h
    · exact .inr (.inl h)
    · exact .inr (.inr (.inr (.inr ⟨k, h⟩)))
theorem meet_flip {a b c d : IP} : MeetI b a c d ↔ MeetI a b c d := by
  unfold MeetI
  rw [bet_flip (a := a) (b := b), bet_flip (a := a) (b := b), div_flip (a := a) (b := b), div_swap (p := a) (q := b)]
  constructor
  · rintro (h | h | h | h | h)
    · exact .inl h
    · exact .inr (.inl h)
    · exact .inr (.inr (.inr (.inl h)))
    · exact .inr (.inr (.inl h))
    · exact .inr (.inr (.inr (.inr h)))
  · rintro (h | h | h | h | h)
    · exact .inl h
    · exact .inr (.inl h)
    · exact .inr (.inr (.inr (.inl h)))
    · exact .inr (.inr (.inl h))
    · exact .inr (.inr (.inr (.inr h)))
theorem meet_rev {a b c d : IP} : MeetI d c b a ↔ MeetI a b c d := by rw [meet_flip, meet_symm, meet_flip]
theorem trap_flip (a b : IP) : trap b a = -trap a b := by unfold trap; grind
/-- no two sides that are not neighbours meet, told along the cycle -/
def SimpC (P : List IP) : Prop := ∀ i, nth P i ≠ nth P (i + 1) ∧ ¬ BetI (nth P i) (nth P (i + 1)) (nth P (i + 2)) ∧ ¬ BetI (nth P (i + 1)) (nth P (i + 2)) (nth P i) ∧
  ∀ d, 2 ≤ d → d + 2 ≤ P.length → ¬ MeetI (nth P i) (nth P (i + 1)) (nth P (i + d)) (nth P (i + d + 1))
theorem nth_cast {P : List IP} {i j : Nat} (h : i % P.length = j % P.length) : nth P i = nth P j := by unfold nth; rw [h]
theorem simpC_iff {P : List IP} (h3 : 3 ≤ P.length) : SimpI P ↔ SimpC P := by
  constructor
  · intro h i
    have hn : 0 < P.length := by omega
    have hi := Nat.mod_lt i hn
    obtain ⟨h1, h2, h4, h5⟩ := h (i % P.length) hi
    have e0 : nth P (i % P.length) = nth P i := nth_modl P i
    have e : ∀ c, nth P (i % P.length + c) = nth P (i + c) := fun c => nth_cast (by rw [Nat.mod_add_mod])
    rw [e0, e] at h1
    rw [e0, e, e] at h2
    rw [e0, e, e] at h4
    refine ⟨h1, h2, h4, fun d hd hd2 => ?_⟩
    by_cases hk : i % P.length + d < P.length
    · have := h5 (i % P.length + d) (by omega) hk (by omega)
      rw [e0, e, e, show i % P.length + d + 1 = i % P.length + (d + 1) by omega, e] at this
      exact this
    · have hk' : i % P.length + d - P.length < P.length := by omega
      have := (h (i % P.length + d - P.length) hk').2.2.2 (i % P.length) (by omega) hi (by omega)
      have f : ∀ c, nth P (i % P.length + d - P.length + c) = nth P (i + d + c) := fun c => by
        rw [← nth_per P (i % P.length + d - P.length + c), show i % P.length + d - P.length + c + P.length = i % P.length + (d + c) by omega, e, Nat.add_assoc]
      rw [f 1, show nth P (i % P.length + d - P.length) = nth P (i + d) from f 0, e0, e] at this
      rw [meet_symm] at this
      exact this
  · intro h i hi
    obtain ⟨h1, h2, h4, h5⟩ := h i
    refine ⟨h1, h2, h4, fun k hk hk2 hne => ?_⟩
    have := h5 (k - i) (by omega) (by omega)
    rw [show i + (k - i) = k by omega] at this
    exact this
theorem nth_rev {P : List IP} {m x : Nat} (h : x < P.length * m) : nth P.reverse x = nth P (P.length * m - 1 - x) := by
  have hn : 0 < P.length := Nat.pos_of_ne_zero (fun h0 => by simp [h0] at h)
  unfold nth
  rw [List.length_reverse]
  have hx := Nat.mod_lt x hn
  have e : (P.length * m - 1 - x) % P.length = P.length - 1 - x % P.length := by
    have e1 := Nat.div_add_mod x P.length
    have hq : x / P.length < m := by rw [Nat.div_lt_iff_lt_mul hn]; rw [Nat.mul_comm]; exact h
    obtain ⟨t, ht⟩ : ∃ t, m = x / P.length + 1 + t := ⟨m - (x / P.length + 1), by omega⟩
    have e2 : P.length * m - 1 - x = P.length - 1 - x % P.length + P.length * t := by
      have e3 : P.length * m = P.length * (x / P.length) + P.length + P.length * t := by rw [ht, Nat.mul_add, Nat.mul_add, Nat.mul_one]
      omega
    rw [e2, Nat.add_mul_mod_self_left, Nat.mod_eq_of_lt (by omega)]
  rw [e]
  simp only [List.getD]
  rw [List.getElem?_reverse hx]
theorem simpC_rev {P : List IP} (h : SimpC P) (h0 : 0 < P.length) : SimpC P.reverse := by
  intro i
  have key : ∀ c d, c ≤ d → nth P.reverse (i + c) = nth P (P.length * (i + d + 1) - 1 - (i + c)) := fun c d hc => nth_rev (Nat.lt_of_lt_of_le (show i + c < i + d + 1 by omega) (Nat.le_mul_of_pos_left _ h0))
  have big : ∀ d, i + d + 1 ≤ P.length * (i + d + 1) := fun d => Nat.le_mul_of_pos_left _ h0
  have g2 := big 2
  obtain ⟨k0, k1, k2⟩ := And.intro (key 0 2 (by omega)) (And.intro (key 1 2 (by omega)) (key 2 2 (by omega)))
  generalize hM : P.length * (i + 2 + 1) = M at *
  have a := h (M - 1 - (i + 2))
  rw [show M - 1 - (i + 2) + 1 = M - 1 - (i + 1) by omega, show M - 1 - (i + 2) + 2 = M - 1 - (i + 0) by omega, ← k0, ← k1, ← k2] at a
  have b := h (M - 1 - (i + 1))
  rw [show M - 1 - (i + 1) + 1 = M - 1 - (i + 0) by omega, ← k0, ← k1] at b
  refine ⟨fun e => b.1 e.symm, fun hb => ?_, fun hb => ?_, fun d hd hd2 => ?_⟩
  · exact a.2.2.1 (bet_flip.1 hb)
  · exact a.2.1 (bet_flip.1 hb)
  · rw [List.length_reverse] at hd2
    have gd := big (d + 1)
    obtain ⟨k0, k1, k2, k3⟩ := And.intro (key 0 (d + 1) (by omega)) (And.intro (key 1 (d + 1) (by omega)) (And.intro (key d (d + 1) (by omega)) (key (d + 1) (d + 1) (by omega))))
    generalize hM : P.length * (i + (d + 1) + 1) = M at *
    have c := (h (M - 1 - (i + (d + 1)))).2.2.2 d hd hd2
    rw [show M - 1 - (i + (d + 1)) + 1 = M - 1 - (i + d) by omega, show M - 1 - (i + (d + 1)) + d + 1 = M - 1 - (i + 0) by omega, show M - 1 - (i + (d + 1)) + d = M - 1 - (i + 1) by omega, ← k0, ← k1, ← k2, ← k3] at c
    rw [meet_rev] at c
    exact c
theorem simpI_rev {P : List IP} (h3 : 3 ≤ P.length) : SimpI P.reverse ↔ SimpI P := by
  rw [simpC_iff h3, simpC_iff (by rw [List.length_reverse]; exact h3)]
  constructor
  · intro h
    have := simpC_rev h (by rw [List.length_reverse]; omega)
    rwa [List.reverse_reverse] at this
  · intro h; exact simpC_rev h (by omega)
theorem ins_rev {P : List IP} : InsI P.reverse ↔ InsI P := by unfold InsI; simp
theorem chk_rev (P : List IP) : chk P.reverse = chk P := by
  unfold chk
  rw [List.length_reverse]
  by_cases h1 : 40 < P.length
  · rw [if_pos h1, if_pos h1]
  rw [if_neg h1, if_neg h1]
  by_cases h2 : P.length < 3
  · rw [if_pos h2, if_pos h2]
  rw [if_neg h2, if_neg h2, show (InsI P.reverse) = InsI P from propext ins_rev, show (SimpI P.reverse) = SimpI P from propext (simpI_rev (by omega))]
/-- sums over the sides, in the opposite order -/
theorem sum_rev {P : List IP} (F : IP → IP → Int) : sumN (fun i => F (nth P.reverse i) (nth P.reverse (i + 1))) P.length = sumN (fun i => F (nth P (i + 1)) (nth P i)) P.length := by
  have e : sumN (fun i => F (nth P.reverse i) (nth P.reverse (i + 1))) P.length = sumN (fun i => (fun j => (fun x => F (nth P (x + 1)) (nth P x)) (j + (P.length - 1))) (P.length - 1 - i)) P.length := by
    refine sumN_congr (fun i hi => ?_)
    have a := nth_rev (P := P) (m := 2) (x := i) (by omega)
    have b := nth_rev (P := P) (m := 2) (x := i + 1) (by omega)
    rw [a, b]
    show F _ _ = F (nth P (P.length - 1 - i + (P.length - 1) + 1)) (nth P (P.length - 1 - i + (P.length - 1)))
    rw [show P.length * 2 - 1 - i = P.length - 1 - i + (P.length - 1) + 1 by omega, show P.length * 2 - 1 - (i + 1) = P.length - 1 - i + (P.length - 1) by omega]
  rw [e, sumN_rev (fun j => (fun x => F (nth P (x + 1)) (nth P x)) (j + (P.length - 1)))]
  exact sumN_shift (f := fun x => F (nth P (x + 1)) (nth P x)) (fun i => by
    show F (nth P (i + P.length + 1)) (nth P (i + P.length)) = _
    rw [show i + P.length + 1 = i + 1 + P.length by omega, nth_per, nth_per]) _
theorem area_rev (P : List IP) : areaI P.reverse = -areaI P := by
  unfold areaI
  rw [List.length_reverse, sum_rev trap]
  have : sumN (fun i => trap (nth P (i + 1)) (nth P i)) P.length = -sumN (fun i => trap (nth P i) (nth P (i + 1))) P.length := by
    rw [← sumN_neg]
    exact sumN_congr (fun i _ => trap_flip _ _)
  rw [this]
end Geo
end
section
/- Polygons on the grid: points outside of the box, moved polygons. -/
namespace Geo
theorem sum_cyc {P : List IP} (h : IP → Int) : sumN (fun i => h (nth P (i + 1)) - h (nth P i)) P.length = 0 := by
  have key : ∀ n, sumN (fun i => h (nth P (i + 1)) - h (nth P i)) n = h (nth P n) - h (nth P 0) := by
    intro n
    induction n with
    | zero => simp [sumN]
    | succ n ih => rw [sumN, ih]; omega
  rw [key]
  have : nth P P.length = nth P 0 := by have := nth_per P 0; rw [Nat.zero_add] at this; exact this
  rw [this]; omega
/-! moved polygons -/
theorem min_in {P : List IP} (hP : P ≠ []) (h : InsI P) : insI (minX P) ∧ insI (maxX P) ∧ insI (minY P) ∧ insI (maxY P) := by
  obtain ⟨_, s, hs, e⟩ := minX_spec hP
  obtain ⟨_, s2, hs2, e2⟩ := maxX_spec hP
  obtain ⟨_, s3, hs3, e3⟩ := minY_spec hP
  obtain ⟨_, s4, hs4, e4⟩ := maxY_spec hP
  rw [e, e2, e3, e4]
  exact ⟨(h s hs).1, (h s2 hs2).1, (h s3 hs3).2, (h s4 hs4).2⟩
end Geo
end
section
/- Small words for the plain proofs. -/
namespace Pl
open Go Geo Pm
theorem pos {α : Type} {c : Prop} {inst : Decidable c} {A B : Option α} {r : α} (h : c) (hA : A = some r) : @ite _ c inst A B = some r := by rw [if_pos h]; exact hA
theorem neg {α : Type} {c : Prop} {inst : Decidable c} {A B : Option α} {r : α} (h : ¬ c) (hB : B = some r) : @ite _ c inst A B = some r := by rw [if_neg h]; exact hB
theorem bnd {α β : Type} {o : Option α} {f : α → Option β} {v : α} {r : β} (ho : o = some v) (h : f v = some r) : o.bind f = some r := by rw [ho]; exact h
theorem wr_def (x : Int) : wr .i64 x = if x % 18446744073709551616 ≥ 9223372036854775808 then x % 18446744073709551616 - 18446744073709551616 else x % 18446744073709551616 := by
  show IntKind.wrap .i64 x = _
  unfold IntKind.wrap
  simp [IntKind.bits, IntKind.signed]
theorem wr64 {x : Int} (h : -9223372036854775808 ≤ x) (h2 : x ≤ 9223372036854775807) : wr .i64 x = x := by rw [wr_def]; omega
theorem wrS {i : Nat} (h : i < 4611686018427387904) : wr .i64 ((i : Int) + 1) = ((i + 1 : Nat) : Int) := by rw [wr64 (by omega) (by omega)]; rfl
theorem wrS2 {i : Nat} (h : i < 4611686018427387904) : wr .i64 ((i : Int) + 2) = ((i + 2 : Nat) : Int) := by rw [wr64 (by omega) (by omega)]; rfl
theorem dt {p : Prop} [Decidable p] (h : p) : decide p = true := decide_eq_true h
theorem df {p : Prop} [Decidable p] (h : ¬ p) : ¬ decide p = true := by simpa using h
theorem ixn {n i : Nat} (h : i < n) : (0 : Int) ≤ (i : Int) ∧ (i : Int) < (n : Int) := by omega
theorem ilt {n i : Nat} (h : i < n) : decide ((i : Int) < (n : Int)) = true := decide_eq_true (by omega)
theorem ige {n i : Nat} (h : n ≤ i) : ¬ decide ((i : Int) < (n : Int)) = true := by simp only [decide_eq_true_eq]; omega
theorem tmod_nat (m n : Nat) : Int.tmod (m : Int) (n : Int) = ((m % n : Nat) : Int) := rfl
theorem nth_get {P : List IP} {i : Nat} (h : i < P.length) : nth P i = P[i] := by unfold nth; simp [List.getD, Nat.mod_eq_of_lt h, h]
theorem nth_getD {P : List IP} {i : Nat} (h : i < P.length) : P.getD i (0, 0) = nth P i := by unfold nth; rw [Nat.mod_eq_of_lt h]
theorem getD_in {α : Type} {l : List α} {i : Nat} (h : i < l.length) (z : α) : l.getD i z ∈ l := by simp [List.getD, h]
theorem getD_eq {α : Type} {l : List α} {i : Nat} (h : i < l.length) (z : α) : l.getD i z = l[i] := by simp [List.getD, h]
theorem set_fill {α : Type} (f : Nat → α) (z : α) (n i : Nat) : ((List.range n).map (fun j => if j < i then f j else z)).set i (f i) = (List.range n).map (fun j => if j < i + 1 then f j else z) := by
  apply List.ext_getElem
  · simp
  · intro j h1 h2
    simp only [List.length_set, List.length_map, List.length_range] at h1 h2
    rw [List.getElem_set]
    simp only [List.getElem_map, List.getElem_range]
    by_cases h : i = j
    · subst h; simp
    · simp only [h, if_false]; by_cases h3 : j < i
      · rw [if_pos h3, if_pos (by omega)]
      · rw [if_neg h3, if_neg (by omega)]
theorem fill_start {α : Type} (f : Nat → α) (z : α) (n : Nat) : (List.range n).map (fun j => if j < 0 then f j else z) = List.replicate n z := by
  apply List.ext_getElem <;> simp
theorem fill_end {α : Type} (f : Nat → α) (z : α) (n : Nat) : (List.range n).map (fun j => if j < n then f j else z) = (List.range n).map f := by
  apply List.map_congr_left; intro j hj; rw [if_pos (List.mem_range.1 hj)]
theorem range_getD {α : Type} (f : Nat → α) {n i : Nat} (h : i < n) (z : α) : ((List.range n).map f).getD i z = f i := by simp [List.getD, h]
theorem drop_cons {α : Type} {l : List α} {i : Nat} (h : i < l.length) : l.drop i = l[i] :: l.drop (i + 1) := List.drop_eq_getElem_cons h
theorem nz {x : Int} (h : x = 0) : ¬ (x != 0) = true := by simp [h]
theorem nn0 {x : Int} (h : x ≠ 0) : (x != 0) = true := by simp [h]
/-- a spot within the bounds -/
def insP (s : IP) : Prop := insI s.1 ∧ insI s.2
end Pl
end
section
/- What the program's polygon functions compute: the test of a polygon. -/
namespace Pl
open Go Geo Pm
theorem insP_of {P : List IP} (h : InsI P) (hP : P ≠ []) (i : Nat) : insP (nth P i) := h _ (nth_in hP i)
theorem cr_bound {a b c : IP} (ha : insP a) (hb : insP b) (hc : insP c) : -8796093022208 ≤ crI a b c ∧ crI a b c ≤ 8796093022208 := by
  obtain ⟨a1, a2⟩ := ha; obtain ⟨b1, b2⟩ := hb; obtain ⟨c1, c2⟩ := hc
  unfold insI at *
  have h1 := prod_bound (x := b.1 - a.1) (y := c.2 - a.2) (M := 2097152) (by omega) (by omega) (by omega) (by omega)
  have h2 := prod_bound (x := b.2 - a.2) (y := c.1 - a.1) (M := 2097152) (by omega) (by omega) (by omega) (by omega)
  unfold crI
  omega
theorem turn_w {a b c : IP} (ha : insP a) (hb : insP b) (hc : insP c) : wr .i64 (wr .i64 (wr .i64 (b.1 - a.1) * wr .i64 (c.2 - b.2)) - wr .i64 (wr .i64 (b.2 - a.2) * wr .i64 (c.1 - b.1))) = crI a b c := by
  have e : (b.1 - a.1) * (c.2 - b.2) - (b.2 - a.2) * (c.1 - b.1) = crI a b c := by unfold crI; grind
  have hc' := cr_bound ha hb hc
  obtain ⟨a1, a2⟩ := ha; obtain ⟨b1, b2⟩ := hb; obtain ⟨c1, c2⟩ := hc
  unfold insI at *
  have h1 := prod_bound (x := b.1 - a.1) (y := c.2 - b.2) (M := 2097152) (by omega) (by omega) (by omega) (by omega)
  have h2 := prod_bound (x := b.2 - a.2) (y := c.1 - b.1) (M := 2097152) (by omega) (by omega) (by omega) (by omega)
  rw [wr64 (x := b.1 - a.1) (by omega) (by omega), wr64 (x := c.2 - b.2) (by omega) (by omega), wr64 (x := b.2 - a.2) (by omega) (by omega), wr64 (x := c.1 - b.1) (by omega) (by omega), wr64 (x := (b.1 - a.1) * (c.2 - b.2)) (by omega) (by omega), wr64 (x := (b.2 - a.2) * (c.1 - b.1)) (by omega) (by omega), e, wr64 (by omega) (by omega)]
theorem turn_ok {a b c : IP} (ha : insP a) (hb : insP b) (hc : insP c) : callT CG [.v tI] 14 [.val t0 a, .val t0 b, .val t0 c] = some (crI a b c) :=
  callT_of (polygon_turn_st a b c (by rw [turn_w ha hb hc])) rfl
theorem min_if (a b : Int) : (if b < a then b else a) = min a b := by omega
theorem max_if (a b : Int) : (if b > a then b else a) = max a b := by omega
theorem within_ok (n a b : Int) : callT CG [.v .bool] 25 [.val tI n, .val tI a, .val tI b] = some (decide (min a b ≤ n ∧ n ≤ max a b)) := by
  refine callT_of (polygon_within_st n a b (r := [.val .bool (decide (min a b ≤ n ∧ n ≤ max a b))]) ?_) rfl
  rw [min_if, max_if]
  by_cases h : min a b ≤ n
  · refine pos (dt h) ?_; simp [h]
  · refine neg (df h) ?_; simp [h]
open Classical in
theorem holds_ok {a b q : IP} (ha : insP a) (hb : insP b) (hq : insP q) : callT CG [.v .bool] 23 [.val t1 (a, b), .val t0 q] = some (decide (BetI a b q)) := by
  refine callT_of (polygon_side_holds_st (a, b) q (r := [.val .bool (decide (BetI a b q))]) ?_) rfl
  refine bnd (turn_ok ha hb hq) ?_
  by_cases h : crI a b q = 0
  · refine pos (by simp [h]) ?_
    refine bnd (within_ok _ _ _) ?_
    by_cases h1 : min a.1 b.1 ≤ q.1 ∧ q.1 ≤ max a.1 b.1
    · refine pos (dt h1) ?_
      refine bnd (within_ok _ _ _) ?_
      by_cases h2 : min a.2 b.2 ≤ q.2 ∧ q.2 ≤ max a.2 b.2
      · have h3 : BetI a b q := ⟨h, h1, h2⟩
        simp only [h2, h3, and_self, decide_true]
      · have h3 : ¬ BetI a b q := fun x => h2 x.2.2
        simp only [h2, h3, decide_false]
    · refine neg (df h1) ?_
      have h3 : ¬ BetI a b q := fun x => h1 x.2.1
      simp only [h3, decide_false]
  · refine neg (by simp [h]) ?_
    have h3 : ¬ BetI a b q := fun x => h x.1
    simp only [h3, decide_false]
open Classical in
theorem divides_ok {a b p q : IP} (ha : insP a) (hb : insP b) (hp : insP p) (hq : insP q) : callT CG [.v .bool] 26 [.val t1 (a, b), .val t0 p, .val t0 q] = some (decide (DivI a b p q)) := by
  refine callT_of (polygon_side_divides_st (a, b) p q (r := [.val .bool (decide (DivI a b p q))]) ?_) rfl
  refine bnd (turn_ok ha hb hp) (bnd (turn_ok ha hb hq) ?_)
  have two : ∀ {x y : Int} {r : Bool}, (decide (0 < x ∧ y < 0) = r) → (if decide (x > (0 : Int)) = true then some [D.val .bool (decide (y < (0 : Int)))] else some [D.val .bool false]) = some [D.val .bool r] := by
    rintro x y r rfl
    by_cases hx : x > 0
    · rw [if_pos (dt hx)]; simp [show 0 < x from hx]
    · rw [if_neg (df hx)]; simp [hx]
  by_cases h1 : crI a b p < 0
  · refine pos (dt h1) ?_
    by_cases h2 : crI a b q > 0
    · refine pos (dt h2) ?_; rw [decide_eq_true (show DivI a b p q from Or.inl ⟨h1, h2⟩)]
    · refine neg (df h2) (two (x := crI a b p) (y := crI a b q) ?_)
      rw [decide_eq_false (show ¬ DivI a b p q from fun h => by rcases h with h | h <;> omega)]
      exact decide_eq_false (by omega)
  · refine neg (df h1) (two (x := crI a b p) (y := crI a b q) ?_)
    apply decide_eq_decide.2
    unfold DivI
    omega
open Classical in
theorem meets_ok {a b c d : IP} (ha : insP a) (hb : insP b) (hc : insP c) (hd : insP d) : callT CG [.v .bool] 24 [.val t1 (a, b), .val t1 (c, d)] = some (decide (MeetI a b c d)) := by
  refine callT_of (polygon_side_meets_st (a, b) (c, d) (r := [.val .bool (decide (MeetI a b c d))]) ?_) rfl
  refine bnd (holds_ok ha hb hc) ?_
  by_cases h1 : BetI a b c
  · refine pos (dt h1) ?_; rw [decide_eq_true (show MeetI a b c d from Or.inl h1)]
  refine neg (df h1) (bnd (holds_ok ha hb hd) ?_)
  by_cases h2 : BetI a b d
  · refine pos (dt h2) ?_; rw [decide_eq_true (show MeetI a b c d from Or.inr (Or.inl h2))]
  refine neg (df h2) (bnd (holds_ok hc hd ha) ?_)
  by_cases h3 : BetI c d a
  · refine pos (dt h3) ?_; rw [decide_eq_true (show MeetI a b c d from Or.inr (Or.inr (Or.inl h3)))]
  refine neg (df h3) (bnd (holds_ok hc hd hb) ?_)
  by_cases h4 : BetI c d b
  · refine pos (dt h4) ?_; rw [decide_eq_true (show MeetI a b c d from Or.inr (Or.inr (Or.inr (Or.inl h4))))]
  refine neg (df h4) (bnd (divides_ok ha hb hc hd) ?_)
  by_cases h5 : DivI a b c d
  · refine pos (dt h5) (bnd (divides_ok hc hd ha hb) ?_)
    rw [show decide (MeetI a b c d) = decide (DivI c d a b) from decide_eq_decide.2 (by unfold MeetI; simp [h1, h2, h3, h4, h5])]
  · refine neg (df h5) ?_
    rw [decide_eq_false (show ¬ MeetI a b c d from by unfold MeetI; simp [h1, h2, h3, h4, h5])]
/-- the sides -/
def sds (P : List IP) : List (IP × IP) := (List.range P.length).map fun i => (nth P i, nth P (i + 1))
theorem sds_len (P : List IP) : (sds P).length = P.length := by simp [sds]
theorem sds_get {P : List IP} {i : Nat} (h : i < P.length) (z : IP × IP) : (sds P).getD i z = (nth P i, nth P (i + 1)) := range_getD (fun i => (nth P i, nth P (i + 1))) h z
theorem sides_lp (P : List IP) (hl : P.length < 4611686018427387904) : ∀ (k i : Nat), i + k = P.length →
    polygon_sides_lp1 CG P P P (P.length : Int) (i : Int) ((List.range P.length).map fun j => if j < i then (nth P j, nth P (j + 1)) else ((0, 0), (0, 0))) = some [.own t1 (sds P)]
  | 0, i, h => by
    refine polygon_sides_lp1_st _ _ _ _ _ _ ?_
    refine neg (ige (by omega)) ?_
    obtain rfl : i = P.length := by omega
    rw [fill_end (fun j => (nth P j, nth P (j + 1)))]; rfl
  | k + 1, i, h => by
    have hi : i < P.length := by omega
    refine polygon_sides_lp1_st _ _ _ _ _ _ ?_
    refine pos (ilt hi) (pos (ixn hi) (pos (by omega) ?_))
    rw [wrS (by omega), tmod_nat]
    have hm := Nat.mod_lt (i + 1) (show 0 < P.length by omega)
    refine pos (ixn hm) (pos (by simp; omega) ?_)
    simp only [Int.toNat_natCast]
    rw [nth_getD hi, show P.getD ((i + 1) % P.length) (0, 0) = nth P (i + 1) from rfl, set_fill (fun j => (nth P j, nth P (j + 1)))]
    exact sides_lp P hl k (i + 1) (by omega)
theorem sides_ok {P : List IP} (hl : P.length < 8796093022208) : callT CG [.o t1] 22 [.val (.sl t0) P] = some (sds P) := by
  refine callT_of (polygon_sides_st P (r := [.own t1 (sds P)]) ?_) rfl
  refine pos (by omega) ?_
  rw [Int.toNat_natCast, ← fill_start (fun j => (nth P j, nth P (j + 1)))]
  exact sides_lp P (by omega) P.length 0 (by omega)
end Pl
end
section
/- The program's test of a polygon. -/
namespace Pl
open Go Geo Pm
def RowI (P : List IP) (i : Nat) : Prop := nth P i ≠ nth P (i + 1) ∧ ¬ BetI (nth P i) (nth P (i + 1)) (nth P (i + 2)) ∧ ¬ BetI (nth P (i + 1)) (nth P (i + 2)) (nth P i) ∧
  ∀ k, i + 2 ≤ k → k < P.length → ¬ (i = 0 ∧ k = P.length - 1) → ¬ MeetI (nth P i) (nth P (i + 1)) (nth P k) (nth P (k + 1))
def RowsI (P : List IP) (i : Nat) : Prop := ∀ j, i ≤ j → j < P.length → RowI P j
theorem rows0 (P : List IP) : RowsI P 0 ↔ SimpI P := ⟨fun h i hi => h i (Nat.zero_le _) hi, fun h j _ hj => h j hj⟩
theorem rowsS {P : List IP} {i : Nat} (hi : i < P.length) : RowsI P i ↔ RowI P i ∧ RowsI P (i + 1) :=
  ⟨fun h => ⟨h i (Nat.le_refl _) hi, fun j h1 h2 => h j (by omega) h2⟩, fun h j h1 h2 => by
    by_cases e : j = i
    · rw [e]; exact h.1
    · exact h.2 j (by omega) h2⟩
theorem eq_pair (a b : IP) : ((a.1 == b.1) && (a.2 == b.2)) = true ↔ a = b := by
  rw [Bool.and_eq_true, beq_iff_eq, beq_iff_eq]; exact ⟨fun h => Prod.ext h.1 h.2, fun h => by rw [h]; exact ⟨rfl, rfl⟩⟩
theorem nth_mod1 (P : List IP) (i : Nat) : nth P ((i + 1) % P.length) = nth P (i + 1) := nth_modl P (i + 1)
theorem nth_mod2 (P : List IP) (i : Nat) : nth P ((i + 1) % P.length + 1) = nth P (i + 2) := by unfold nth; rw [Nat.mod_add_mod]
def Beyond (P : List IP) (i k : Nat) : Prop := ∀ k', k ≤ k' → k' < P.length → ¬ (i = 0 ∧ k' = P.length - 1) → ¬ MeetI (nth P i) (nth P (i + 1)) (nth P k') (nth P (k' + 1))
theorem beyondS {P : List IP} {i k : Nat} (hk : k < P.length) : Beyond P i k ↔ (¬ (i = 0 ∧ k = P.length - 1) → ¬ MeetI (nth P i) (nth P (i + 1)) (nth P k) (nth P (k + 1))) ∧ Beyond P i (k + 1) :=
  ⟨fun h => ⟨h k (Nat.le_refl _) hk, fun j h1 h2 => h j (by omega) h2⟩, fun h j h1 h2 => by
    by_cases e : j = k
    · rw [e]; exact h.1
    · exact h.2 j (by omega) h2⟩
open Classical in
theorem simple_lp2 {P : List IP} (hl : P.length < 4611686018427387904) (hb : InsI P) {i : Nat} (hi : i < P.length)
    (hn : polygon_simple_lp1 CG P (P.length : Int) ((i + 1 : Nat) : Int) (sds P) = some [.val .bool (decide (RowsI P (i + 1)))]) : ∀ (m k : Nat), k + m = P.length →
    polygon_simple_lp2 CG P (i : Int) (k : Int) (P.length : Int) (i : Int) (sds P) (nth P i, nth P (i + 1)) = some [.val .bool (decide (Beyond P i k ∧ RowsI P (i + 1)))]
  | 0, k, h => by
    refine polygon_simple_lp2_st _ _ _ _ _ _ _ ?_
    rw [sds_len]
    refine neg (ige (by omega)) ?_
    rw [wrS (by omega), hn, show decide (Beyond P i k ∧ RowsI P (i + 1)) = decide (RowsI P (i + 1)) from decide_eq_decide.2 ⟨fun h => h.2, fun h' => ⟨fun k' h1 h2 => by omega, h'⟩⟩]
  | m + 1, k, h => by
    have hk : k < P.length := by omega
    have hP : P ≠ [] := by rintro rfl; cases hi
    have ih := simple_lp2 hl hb hi hn m (k + 1) (by omega)
    have go : ¬ (i = 0 ∧ k = P.length - 1) → ∀ A : Option R, (((callT CG [.v .bool] 24 [.val t1 (nth P i, nth P (i + 1)), .val t1 ((sds P).getD (Int.toNat (k : Int)) ((0, 0), (0, 0)))]).bind fun r1 => (if r1 = true then (some [.val .bool false]) else (polygon_simple_lp2 CG P (i : Int) (wr .i64 ((k : Int) + 1)) (P.length : Int) (i : Int) (sds P) (nth P i, nth P (i + 1)))))) = A → A = some [.val .bool (decide (Beyond P i k ∧ RowsI P (i + 1)))] := by
      rintro hs A rfl
      rw [Int.toNat_natCast, sds_get hk]
      refine bnd (meets_ok (insP_of hb hP _) (insP_of hb hP _) (insP_of hb hP _) (insP_of hb hP _)) ?_
      by_cases hm : MeetI (nth P i) (nth P (i + 1)) (nth P k) (nth P (k + 1))
      · refine pos (dt hm) ?_
        rw [decide_eq_false (fun h' => (beyondS hk).1 h'.1 |>.1 hs hm)]
      · refine neg (df hm) ?_
        rw [wrS (by omega), ih]
        rw [show decide (Beyond P i k ∧ RowsI P (i + 1)) = decide (Beyond P i (k + 1) ∧ RowsI P (i + 1)) from decide_eq_decide.2 (by rw [beyondS hk]; simp [hm])]
    refine polygon_simple_lp2_st _ _ _ _ _ _ _ ?_
    rw [sds_len]
    refine pos (ilt hk) ?_
    by_cases h0 : i = 0
    · refine pos (by simp [h0]) ?_
      rw [wr64 (x := (P.length : Int) - 1) (by omega) (by omega)]
      by_cases h1 : k = P.length - 1
      · refine pos (by simp only [beq_iff_eq]; omega) ?_
        rw [wrS (by omega), ih]
        rw [show decide (Beyond P i k ∧ RowsI P (i + 1)) = decide (Beyond P i (k + 1) ∧ RowsI P (i + 1)) from decide_eq_decide.2 (by rw [beyondS hk]; simp [h0, h1])]
      · refine neg (by simp only [beq_iff_eq]; omega) (pos (ixn hk) (go (by omega) _ rfl))
    · refine neg (by simp only [beq_iff_eq]; omega) (pos (ixn hk) (go (by omega) _ rfl))
open Classical in
theorem simple_lp1 {P : List IP} (hl : P.length < 4611686018427387904) (hb : InsI P) : ∀ (m i : Nat), i + m = P.length →
    polygon_simple_lp1 CG P (P.length : Int) (i : Int) (sds P) = some [.val .bool (decide (RowsI P i))]
  | 0, i, h => by
    refine polygon_simple_lp1_st _ _ _ _ ?_
    refine neg (ige (by omega)) ?_
    rw [decide_eq_true (show RowsI P i from fun j h1 h2 => by omega)]
  | m + 1, i, h => by
    have hi : i < P.length := by omega
    have hP : P ≠ [] := by rintro rfl; cases hi
    have hm := Nat.mod_lt (i + 1) (show 0 < P.length by omega)
    refine polygon_simple_lp1_st _ _ _ _ ?_
    simp only [sds_len, Int.toNat_natCast, sds_get hi, wrS (show i < 4611686018427387904 by omega), tmod_nat, sds_get hm, nth_mod1, nth_mod2]
    refine pos (ilt hi) (pos (ixn hi) ?_)
    by_cases h1 : nth P i = nth P (i + 1)
    · refine pos ((eq_pair _ _).2 h1) ?_
      rw [decide_eq_false (show ¬ RowsI P i from fun h' => ((rowsS hi).1 h').1.1 h1)]
    refine neg (fun h' => h1 ((eq_pair _ _).1 h')) (pos (by omega) (pos (ixn hm) ?_))
    refine bnd (holds_ok (insP_of hb hP _) (insP_of hb hP _) (insP_of hb hP _)) ?_
    by_cases h2 : BetI (nth P i) (nth P (i + 1)) (nth P (i + 2))
    · refine pos (dt h2) ?_
      rw [decide_eq_false (show ¬ RowsI P i from fun h' => ((rowsS hi).1 h').1.2.1 h2)]
    refine neg (df h2) (bnd (holds_ok (insP_of hb hP _) (insP_of hb hP _) (insP_of hb hP _)) ?_)
    by_cases h3 : BetI (nth P (i + 1)) (nth P (i + 2)) (nth P i)
    · refine pos (dt h3) ?_
      rw [decide_eq_false (show ¬ RowsI P i from fun h' => ((rowsS hi).1 h').1.2.2.1 h3)]
    refine neg (df h3) ?_
    rw [wrS2 (by omega)]
    have e : decide (RowsI P i) = decide (Beyond P i (i + 2) ∧ RowsI P (i + 1)) := decide_eq_decide.2 (by
      rw [rowsS hi]
      exact ⟨fun h' => ⟨h'.1.2.2.2, h'.2⟩, fun h' => ⟨⟨h1, h2, h3, h'.1⟩, h'.2⟩⟩)
    rw [e]
    have hn := simple_lp1 hl hb m (i + 1) (by omega)
    by_cases hk : i + 2 ≤ P.length
    · exact simple_lp2 hl hb hi hn (P.length - (i + 2)) (i + 2) (by omega)
    · refine polygon_simple_lp2_st _ _ _ _ _ _ _ ?_
      rw [sds_len]
      refine neg (ige (by omega)) ?_
      rw [wrS (by omega), hn, show decide (Beyond P i (i + 2) ∧ RowsI P (i + 1)) = decide (RowsI P (i + 1)) from decide_eq_decide.2 ⟨fun h => h.2, fun h' => ⟨fun k' h1 h2 => by omega, h'⟩⟩]
open Classical in
theorem simple_ok {P : List IP} (hl : P.length < 8796093022208) (hb : InsI P) : callT CG [.v .bool] 21 [.val (.sl t0) P] = some (decide (SimpI P)) := by
  refine callT_of (polygon_simple_st P (r := [.val .bool (decide (SimpI P))]) ?_) rfl
  refine bnd (sides_ok hl) ?_
  have := simple_lp1 (by omega) hb P.length 0 (by omega)
  rw [sds_len, show decide (SimpI P) = decide (RowsI P 0) from decide_eq_decide.2 (rows0 P).symm]
  exact this
theorem inside_ok (n : Int) : callT CG [.v .bool] 20 [.val tI n] = some (decide (insI n)) := by
  refine callT_of (polygon_inside_st n (r := [.val .bool (decide (insI n))]) ?_) rfl
  by_cases h : n ≥ -1048576
  · refine pos (dt h) ?_; rw [show decide (n ≤ (1048576 : Int)) = decide (insI n) from decide_eq_decide.2 (by unfold insI; omega)]
  · refine neg (df h) ?_; rw [decide_eq_false (show ¬ insI n from fun h' => h h'.1)]
open Classical in
theorem check_lp {P : List IP} (h3 : 3 ≤ P.length) (h40 : P.length ≤ 40) : ∀ (m i : Nat), i + m = P.length → (∀ s ∈ P.take i, insP s) →
    polygon_Check_lp1 CG P P P (P.length : Int) (i : Int) = some [.val tI (chk P)]
  | 0, i, h, hb => by
    have hb : InsI P := by rw [List.take_of_length_le (by omega)] at hb; exact hb
    refine polygon_Check_lp1_st _ _ _ _ _ ?_
    have hc : chk P = if SimpI P then 0 else 11 := by
      unfold chk
      rw [if_neg (by omega), if_neg (by omega), if_neg (fun h' => h' hb)]
    refine neg (ige (by omega)) (bnd (simple_ok (by omega) hb) ?_)
    by_cases hs : SimpI P
    · refine neg (by simp [hs]) ?_; rw [hc, if_pos hs]
    · refine pos (by simp [hs]) ?_; rw [hc, if_neg hs]
  | m + 1, i, h, hb => by
    have hi : i < P.length := by omega
    have bad : ¬ insP P[i] → chk P = 3 := fun hn => by
      unfold chk
      rw [if_neg (by omega), if_neg (by omega), if_pos (fun h' => hn (h' _ (List.getElem_mem hi)))]
    refine polygon_Check_lp1_st _ _ _ _ _ ?_
    rw [Int.toNat_natCast, getD_eq hi]
    refine pos (ilt hi) (pos (ixn hi) (bnd (inside_ok _) ?_))
    by_cases h1 : insI P[i].1
    · refine neg (by simp [h1]) (bnd (inside_ok _) ?_)
      by_cases h2 : insI P[i].2
      · refine neg (by simp [h2]) ?_
        rw [wrS (by omega)]
        refine check_lp h3 h40 m (i + 1) (by omega) ?_
        intro s hs
        rw [List.take_succ_eq_append_getElem hi, List.mem_append] at hs
        rcases hs with hs | hs
        · exact hb s hs
        · rw [List.mem_singleton.1 hs]; exact ⟨h1, h2⟩
      · refine pos (by simp [h2]) ?_
        rw [bad (fun h' => h2 h'.2)]
    · refine pos (by simp [h1]) ?_
      rw [bad (fun h' => h1 h'.1)]
theorem check_cg (P : List IP) : CG 13 [.val (.sl t0) P] = some [.val tI (chk P)] := by
  refine polygon_Check_st P ?_
  by_cases h1 : 40 < P.length
  · refine pos (dt (by omega)) ?_; unfold chk; rw [if_pos h1]
  refine neg (df (by omega)) ?_
  by_cases h2 : P.length < 3
  · refine pos (dt (by omega)) ?_; unfold chk; rw [if_neg h1, if_pos h2]
  refine neg (df (by omega)) ?_
  exact check_lp (by omega) (by omega) P.length 0 (by omega) (by simp)
theorem check_ok (P : List IP) : callT CG [.v tI] 13 [.val (.sl t0) P] = some (chk P) := callT_of (check_cg P) rfl
end Pl
end
section
/- What the reference's polygon functions compute: the test of a polygon. -/
namespace Pl
open Go Geo Pm
theorem cross_w {a b c : IP} (ha : insP a) (hb : insP b) (hc : insP c) : wr .i64 (wr .i64 (wr .i64 (b.1 - a.1) * wr .i64 (c.2 - a.2)) - wr .i64 (wr .i64 (b.2 - a.2) * wr .i64 (c.1 - a.1))) = crI a b c := by
  have hc' := cr_bound ha hb hc
  obtain ⟨a1, a2⟩ := ha; obtain ⟨b1, b2⟩ := hb; obtain ⟨c1, c2⟩ := hc
  unfold insI at *
  have h1 := prod_bound (x := b.1 - a.1) (y := c.2 - a.2) (M := 2097152) (by omega) (by omega) (by omega) (by omega)
  have h2 := prod_bound (x := b.2 - a.2) (y := c.1 - a.1) (M := 2097152) (by omega) (by omega) (by omega) (by omega)
  unfold crI at *
  rw [wr64 (x := b.1 - a.1) (by omega) (by omega), wr64 (x := c.2 - a.2) (by omega) (by omega), wr64 (x := b.2 - a.2) (by omega) (by omega), wr64 (x := c.1 - a.1) (by omega) (by omega), wr64 (x := (b.1 - a.1) * (c.2 - a.2)) (by omega) (by omega), wr64 (x := (b.2 - a.2) * (c.1 - a.1)) (by omega) (by omega), wr64 (by omega) (by omega)]
theorem cross_ok {a b c : IP} (ha : insP a) (hb : insP b) (hc : insP c) : callT CG [.v tI] 33 [.val t0 a, .val t0 b, .val t0 c] = some (crI a b c) :=
  callT_of (garmentref11_Cross_st a b c (by rw [cross_w ha hb hc])) rfl
def sgI (n : Int) : Int := if n > 0 then 1 else if n < 0 then -1 else 0
theorem sign_ok (n : Int) : callT CG [.v tI] 72 [.val tI n] = some (sgI n) := by
  refine callT_of (garmentref11_sign_st n (r := [.val tI (sgI n)]) ?_) rfl
  unfold sgI
  simp only [decide_eq_true_eq]
  (repeat' split) <;> rfl
open Classical in
theorem between_ok {a b q : IP} (ha : insP a) (hb : insP b) (hq : insP q) : callT CG [.v .bool] 70 [.val t0 a, .val t0 b, .val t0 q] = some (decide (BetI a b q)) := by
  refine callT_of (garmentref11_Between_st a b q (r := [.val .bool (decide (BetI a b q))]) ?_) rfl
  refine bnd (cross_ok ha hb hq) ?_
  rw [min_if, max_if, min_if, max_if]
  have no : ¬ BetI a b q → some [D.val .bool false] = some [D.val .bool (decide (BetI a b q))] := fun h => by rw [decide_eq_false h]
  by_cases h : crI a b q = 0
  · refine pos (by simp [h]) ?_
    by_cases h1 : min a.1 b.1 ≤ q.1
    · refine pos (dt h1) ?_
      by_cases h2 : q.1 ≤ max a.1 b.1
      · refine pos (dt h2) ?_
        by_cases h3 : min a.2 b.2 ≤ q.2
        · refine pos (dt h3) ?_
          rw [show decide (q.2 ≤ max a.2 b.2) = decide (BetI a b q) from decide_eq_decide.2 ⟨fun h4 => ⟨h, ⟨h1, h2⟩, h3, h4⟩, fun h4 => h4.2.2.2⟩]
        · exact neg (df h3) (no fun x => h3 x.2.2.1)
      · exact neg (df h2) (no fun x => h2 x.2.1.2)
    · exact neg (df h1) (no fun x => h1 x.2.1.1)
  · exact neg (by simp [h]) (no fun x => h x.1)
theorem sg_prod (x y : Int) : (wr .i64 (sgI x * sgI y) < 0) ↔ ((x < 0 ∧ 0 < y) ∨ (0 < x ∧ y < 0)) := by
  unfold sgI
  (repeat' split) <;> (rw [wr64 (by omega) (by omega)]; omega)
open Classical in
theorem meet_ok {a b c d : IP} (ha : insP a) (hb : insP b) (hc : insP c) (hd : insP d) : callT CG [.v .bool] 71 [.val t0 a, .val t0 b, .val t0 c, .val t0 d] = some (decide (MeetI a b c d)) := by
  refine callT_of (garmentref11_meet_st a b c d (r := [.val .bool (decide (MeetI a b c d))]) ?_) rfl
  refine bnd (between_ok ha hb hc) ?_
  by_cases h1 : BetI a b c
  · refine pos (dt h1) ?_; rw [decide_eq_true (show MeetI a b c d from Or.inl h1)]
  refine neg (df h1) (bnd (between_ok ha hb hd) ?_)
  by_cases h2 : BetI a b d
  · refine pos (dt h2) ?_; rw [decide_eq_true (show MeetI a b c d from Or.inr (Or.inl h2))]
  refine neg (df h2) (bnd (between_ok hc hd ha) ?_)
  by_cases h3 : BetI c d a
  · refine pos (dt h3) ?_; rw [decide_eq_true (show MeetI a b c d from Or.inr (Or.inr (Or.inl h3)))]
  refine neg (df h3) (bnd (between_ok hc hd hb) ?_)
  by_cases h4 : BetI c d b
  · refine pos (dt h4) ?_; rw [decide_eq_true (show MeetI a b c d from Or.inr (Or.inr (Or.inr (Or.inl h4))))]
  refine neg (df h4) (bnd (cross_ok ha hb hc) (bnd (sign_ok _) (bnd (cross_ok ha hb hd) (bnd (sign_ok _) ?_))))
  by_cases h5 : DivI a b c d
  · refine pos (dt ((sg_prod _ _).2 h5)) (bnd (cross_ok hc hd ha) (bnd (sign_ok _) (bnd (cross_ok hc hd hb) (bnd (sign_ok _) ?_))))
    rw [show decide (wr .i64 (sgI (crI c d a) * sgI (crI c d b)) < 0) = decide (MeetI a b c d) from decide_eq_decide.2 (by rw [sg_prod]; unfold MeetI; simp only [h1, h2, h3, h4, h5, false_or, true_and]; exact Iff.rfl)]
  · refine neg (df (fun h => h5 ((sg_prod _ _).1 h))) ?_
    rw [decide_eq_false (show ¬ MeetI a b c d from by unfold MeetI; simp [h1, h2, h3, h4, h5])]
theorem within11_ok (s : IP) : callT CG [.v .bool] 68 [.val t0 s, .val tI (1048576 : Int)] = some (decide (insI s.1 ∧ insI s.2)) := by
  refine callT_of (garmentref11_Within_st s 1048576 (r := [.val .bool (decide (insI s.1 ∧ insI s.2))]) ?_) rfl
  rw [wr64 (by omega) (by omega)]
  unfold insI
  simp only [decide_eq_true_eq]
  (repeat' split) <;> (simp only [Option.some.injEq, List.cons.injEq, and_true]; congr 1; first | (rw [decide_eq_decide]; omega) | (symm; rw [decide_eq_false_iff_not]; omega))
theorem wrap_k {P : List IP} {k i : Nat} (hk : k < P.length) (hi : i + 2 ≤ k) : (((k + 1) % P.length : Nat) : Int) ≠ (i : Int) ↔ ¬ (i = 0 ∧ k = P.length - 1) := by
  by_cases h : k + 1 = P.length
  · rw [h, Nat.mod_self]; omega
  · rw [Nat.mod_eq_of_lt (by omega)]; omega
open Classical in
theorem rsimple_lp2 {P : List IP} (hl : P.length < 4611686018427387904) (hb : InsI P) {i : Nat} (hi : i < P.length)
    (hn : garmentref11_simple_lp1 CG P P (P.length : Int) ((i + 1 : Nat) : Int) = some [.val .bool (decide (RowsI P (i + 1)))]) : ∀ (m k : Nat), k + m = P.length → i + 2 ≤ k →
    garmentref11_simple_lp2 CG P P (P.length : Int) (i : Int) (k : Int) (nth P i) (nth P (i + 1)) = some [.val .bool (decide (Beyond P i k ∧ RowsI P (i + 1)))]
  | 0, k, h, hik => by
    refine garmentref11_simple_lp2_st _ _ _ _ _ _ _ ?_
    refine neg (ige (by omega)) ?_
    rw [wrS (by omega), hn, show decide (Beyond P i k ∧ RowsI P (i + 1)) = decide (RowsI P (i + 1)) from decide_eq_decide.2 ⟨fun h => h.2, fun h' => ⟨fun k' h1 h2 => by omega, h'⟩⟩]
  | m + 1, k, h, hik => by
    have hk : k < P.length := by omega
    have hP : P ≠ [] := by rintro rfl; cases hi
    have hm := Nat.mod_lt (k + 1) (show 0 < P.length by omega)
    have ih := rsimple_lp2 hl hb hi hn m (k + 1) (by omega) (by omega)
    refine garmentref11_simple_lp2_st _ _ _ _ _ _ _ ?_
    rw [wrS (by omega), tmod_nat]
    simp only [Int.toNat_natCast]
    rw [show P.getD ((k + 1) % P.length) (0, 0) = nth P (k + 1) from rfl, nth_getD hk]
    refine pos (ilt hk) (pos (by omega) ?_)
    by_cases hs : i = 0 ∧ k = P.length - 1
    · refine neg (by simp only [bne_iff_ne]; rw [wrap_k hk hik]; simp [hs]) ?_
      rw [ih, show decide (Beyond P i k ∧ RowsI P (i + 1)) = decide (Beyond P i (k + 1) ∧ RowsI P (i + 1)) from decide_eq_decide.2 (by rw [beyondS hk]; simp [hs])]
    · refine pos (by simp only [bne_iff_ne]; rw [wrap_k hk hik]; exact hs) (pos (ixn hk) (pos (by omega) (pos (ixn hm) (bnd (meet_ok (insP_of hb hP _) (insP_of hb hP _) (insP_of hb hP _) (insP_of hb hP _)) ?_))))
      by_cases hm : MeetI (nth P i) (nth P (i + 1)) (nth P k) (nth P (k + 1))
      · refine pos (dt hm) ?_
        rw [decide_eq_false (fun h' => (beyondS hk).1 h'.1 |>.1 hs hm)]
      · refine neg (df hm) ?_
        rw [ih]
        rw [show decide (Beyond P i k ∧ RowsI P (i + 1)) = decide (Beyond P i (k + 1) ∧ RowsI P (i + 1)) from decide_eq_decide.2 (by rw [beyondS hk]; simp [hm])]
open Classical in
theorem rsimple_lp1 {P : List IP} (hl : P.length < 4611686018427387904) (hb : InsI P) : ∀ (m i : Nat), i + m = P.length →
    garmentref11_simple_lp1 CG P P (P.length : Int) (i : Int) = some [.val .bool (decide (RowsI P i))]
  | 0, i, h => by
    refine garmentref11_simple_lp1_st _ _ _ _ ?_
    refine neg (ige (by omega)) ?_
    rw [decide_eq_true (show RowsI P i from fun j h1 h2 => by omega)]
  | m + 1, i, h => by
    have hi : i < P.length := by omega
    have hP : P ≠ [] := by rintro rfl; cases hi
    have hm := Nat.mod_lt (i + 1) (show 0 < P.length by omega)
    have hm2 := Nat.mod_lt (i + 2) (show 0 < P.length by omega)
    refine garmentref11_simple_lp1_st _ _ _ _ ?_
    rw [wrS (by omega), wrS2 (by omega), tmod_nat, tmod_nat]
    simp only [Int.toNat_natCast]
    rw [show P.getD ((i + 1) % P.length) (0, 0) = nth P (i + 1) from rfl, show P.getD ((i + 2) % P.length) (0, 0) = nth P (i + 2) from rfl, nth_getD hi]
    refine pos (ilt hi) (pos (ixn hi) (pos (by omega) (pos (ixn hm) (pos (by omega) (pos (ixn hm2) ?_)))))
    by_cases h1 : nth P i = nth P (i + 1)
    · refine pos ((eq_pair _ _).2 h1) ?_
      rw [decide_eq_false (show ¬ RowsI P i from fun h' => ((rowsS hi).1 h').1.1 h1)]
    refine neg (fun h' => h1 ((eq_pair _ _).1 h')) ?_
    refine bnd (between_ok (insP_of hb hP _) (insP_of hb hP _) (insP_of hb hP _)) ?_
    by_cases h2 : BetI (nth P i) (nth P (i + 1)) (nth P (i + 2))
    · refine pos (dt h2) ?_
      rw [decide_eq_false (show ¬ RowsI P i from fun h' => ((rowsS hi).1 h').1.2.1 h2)]
    refine neg (df h2) (bnd (between_ok (insP_of hb hP _) (insP_of hb hP _) (insP_of hb hP _)) ?_)
    by_cases h3 : BetI (nth P (i + 1)) (nth P (i + 2)) (nth P i)
    · refine pos (dt h3) ?_
      rw [decide_eq_false (show ¬ RowsI P i from fun h' => ((rowsS hi).1 h').1.2.2.1 h3)]
    refine neg (df h3) ?_
    have e : decide (RowsI P i) = decide (Beyond P i (i + 2) ∧ RowsI P (i + 1)) := decide_eq_decide.2 (by
      rw [rowsS hi]
      exact ⟨fun h' => ⟨h'.1.2.2.2, h'.2⟩, fun h' => ⟨⟨h1, h2, h3, h'.1⟩, h'.2⟩⟩)
    rw [e]
    have hn := rsimple_lp1 hl hb m (i + 1) (by omega)
    by_cases hk : i + 2 ≤ P.length
    · exact rsimple_lp2 hl hb hi hn (P.length - (i + 2)) (i + 2) (by omega) (by omega)
    · refine garmentref11_simple_lp2_st _ _ _ _ _ _ _ ?_
      refine neg (ige (by omega)) ?_
      rw [wrS (by omega), hn, show decide (Beyond P i (i + 2) ∧ RowsI P (i + 1)) = decide (RowsI P (i + 1)) from decide_eq_decide.2 ⟨fun h => h.2, fun h' => ⟨fun k' h1 h2 => by omega, h'⟩⟩]
open Classical in
theorem rsimple_ok {P : List IP} (hl : P.length < 8796093022208) (hb : InsI P) : callT CG [.v .bool] 69 [.val (.sl t0) P] = some (decide (SimpI P)) := by
  refine callT_of (garmentref11_simple_st P (r := [.val .bool (decide (SimpI P))]) ?_) rfl
  have := rsimple_lp1 (by omega) hb P.length 0 (by omega)
  rw [show decide (SimpI P) = decide (RowsI P 0) from decide_eq_decide.2 (rows0 P).symm]
  exact this
open Classical in
theorem rcheck_lp {P : List IP} (h3 : 3 ≤ P.length) (h40 : P.length ≤ 40) : ∀ (m i : Nat), i + m = P.length → (∀ s ∈ P.take i, insP s) →
    garmentref11_Check_lp1 CG P P (i : Int) = some [.val tI (chk P)]
  | 0, i, h, hb => by
    have hb : InsI P := by rw [List.take_of_length_le (by omega)] at hb; exact hb
    have hc : chk P = if SimpI P then 0 else 11 := by
      unfold chk
      rw [if_neg (by omega), if_neg (by omega), if_neg (fun h' => h' hb)]
    refine garmentref11_Check_lp1_st _ _ _ ?_
    refine neg (ige (by omega)) (bnd (rsimple_ok (by omega) hb) ?_)
    by_cases hs : SimpI P
    · refine neg (by simp [hs]) ?_; rw [hc, if_pos hs]
    · refine pos (by simp [hs]) ?_; rw [hc, if_neg hs]
  | m + 1, i, h, hb => by
    have hi : i < P.length := by omega
    have bad : ¬ insP P[i] → chk P = 3 := fun hn => by
      unfold chk
      rw [if_neg (by omega), if_neg (by omega), if_pos (fun h' => hn (h' _ (List.getElem_mem hi)))]
    refine garmentref11_Check_lp1_st _ _ _ ?_
    rw [Int.toNat_natCast, getD_eq hi]
    refine pos (ilt hi) (pos (ixn hi) (bnd (within11_ok _) ?_))
    by_cases h1 : insI P[i].1 ∧ insI P[i].2
    · refine neg (by simp [h1]) ?_
      rw [wrS (by omega)]
      refine rcheck_lp h3 h40 m (i + 1) (by omega) ?_
      intro s hs
      rw [List.take_succ_eq_append_getElem hi, List.mem_append] at hs
      rcases hs with hs | hs
      · exact hb s hs
      · rw [List.mem_singleton.1 hs]; exact h1
    · refine pos (by rw [decide_eq_false h1]; rfl) ?_
      rw [bad h1]
theorem rcheck_cg (P : List IP) : CG 67 [.val (.sl t0) P] = some [.val tI (chk P)] := by
  refine garmentref11_Check_st P ?_
  by_cases h1 : 40 < P.length
  · refine pos (dt (by omega)) ?_; unfold chk; rw [if_pos h1]
  refine neg (df (by omega)) ?_
  by_cases h2 : P.length < 3
  · refine pos (dt (by omega)) ?_; unfold chk; rw [if_neg h1, if_pos h2]
  refine neg (df (by omega)) ?_
  exact rcheck_lp (by omega) (by omega) P.length 0 (by omega) (by simp)
theorem rcheck_ok (P : List IP) : callT CG [.v tI] 67 [.val (.sl t0) P] = some (chk P) := callT_of (rcheck_cg P) rfl
end Pl
end
section
/- What the program's polygon functions compute: box, area, position, convexity, moves. -/
namespace Pl
open Go Geo Pm
noncomputable def boxI (P : List IP) : Int × (Int × (Int × Int)) := if chk P = 0 then (minX P, minY P, maxX P - minX P, maxY P - minY P) else (0, 0, 0, 0)
theorem chk_in {P : List IP} (h : chk P = 0) : 3 ≤ P.length ∧ P.length ≤ 40 ∧ InsI P ∧ P ≠ [] ∧ SimpI P := by
  obtain ⟨h1, h2, h3, h4⟩ := chk_ok.1 h
  exact ⟨h2, h1, h3, by rintro rfl; simp at h2, h4⟩
theorem max_wr {a b : Int} (ha : insI a) (hb : insI b) : wr .i64 (a - b) = a - b := by unfold insI at *; exact wr64 (by omega) (by omega)
theorem box_lp {P : List IP} (hl : P.length < 4611686018427387904) (z : Int × (Int × (Int × Int))) : ∀ (m i : Nat), i + m = P.length → ∀ a b c d : Int,
    polygon_Box_lp1 CG P P (P.length : Int) (i : Int) z (a, b) (c, d) = some [.val t8 ((P.drop i).foldl (fun m s => min m s.1) a, (P.drop i).foldl (fun m s => min m s.2) b, wr .i64 ((P.drop i).foldl (fun m s => max m s.1) c - (P.drop i).foldl (fun m s => min m s.1) a), wr .i64 ((P.drop i).foldl (fun m s => max m s.2) d - (P.drop i).foldl (fun m s => min m s.2) b)), .val tI 0]
  | 0, i, h, a, b, c, d => by
    refine polygon_Box_lp1_st _ _ _ _ _ _ _ ?_
    refine neg (ige (by omega)) ?_
    rw [List.drop_of_length_le (by omega)]
    rfl
  | m + 1, i, h, a, b, c, d => by
    have hi : i < P.length := by omega
    refine polygon_Box_lp1_st _ _ _ _ _ _ _ ?_
    refine pos (ilt hi) (pos (ixn hi) ?_)
    rw [Int.toNat_natCast, getD_eq hi, wrS (by omega), drop_cons hi]
    simp only [List.foldl_cons]
    have := box_lp hl z m (i + 1) (by omega) (min a P[i].1) (min b P[i].2) (max c P[i].1) (max d P[i].2)
    rw [show (if P[i].1 < a then P[i].1 else a) = min a P[i].1 by omega, show (if P[i].2 < b then P[i].2 else b) = min b P[i].2 by omega, show (if P[i].1 > c then P[i].1 else c) = max c P[i].1 by omega, show (if P[i].2 > d then P[i].2 else d) = max d P[i].2 by omega]
    exact this
theorem box_cg (P : List IP) : CG 61 [.val (.sl t0) P] = some [.val t8 (boxI P), .val tI (chk P)] := by
  refine polygon_Box_st P ?_
  refine bnd (check_ok P) ?_
  unfold boxI
  by_cases h : chk P = 0
  · obtain ⟨h3, h40, hb, hne, _⟩ := chk_in h
    refine neg (by simp [h]) ?_
    rw [show (Int.toNat (0 : Int)) = 0 from rfl, if_pos h]
    refine pos (by omega) (pos (by omega) ?_)
    have e : P.getD 0 (0, 0) = P.headD (0, 0) := by cases P <;> rfl
    rw [e]
    refine Eq.trans (box_lp (by omega) (0, 0, 0, 0) P.length 0 (by omega) (P.headD (0, 0)).1 (P.headD (0, 0)).2 (P.headD (0, 0)).1 (P.headD (0, 0)).2) ?_
    obtain ⟨m1, m2, m3, m4⟩ := min_in hne hb
    rw [List.drop_zero, h]
    show some [D.val t8 (minX P, minY P, wr .i64 (maxX P - minX P), wr .i64 (maxY P - minY P)), .val tI 0] = _
    rw [max_wr m2 m1, max_wr m4 m3]
  · refine pos (by simp [h]) ?_
    rw [if_neg h]
theorem box_ok (P : List IP) : callT CG [.v t8, .v tI] 61 [.val (.sl t0) P] = some (boxI P, chk P) := callT_of (box_cg P) rfl
theorem trap_bound {a b : IP} (ha : insP a) (hb : insP b) : -4398046511104 ≤ trap a b ∧ trap a b ≤ 4398046511104 ∧ wr .i64 (wr .i64 (b.1 - a.1) * wr .i64 (a.2 + b.2)) = trap a b := by
  obtain ⟨a1, a2⟩ := ha; obtain ⟨b1, b2⟩ := hb
  unfold insI at *
  have h1 := prod_bound (x := b.1 - a.1) (y := a.2 + b.2) (M := 2097152) (by omega) (by omega) (by omega) (by omega)
  unfold trap
  refine ⟨by omega, by omega, ?_⟩
  rw [wr64 (x := b.1 - a.1) (by omega) (by omega), wr64 (x := a.2 + b.2) (by omega) (by omega), wr64 (by omega) (by omega)]
theorem trapS_bound {P : List IP} (hb : InsI P) (hP : P ≠ []) {i : Nat} (hi : i ≤ 1000) : -4398046511104000 ≤ sumN (fun j => trap (nth P j) (nth P (j + 1))) i ∧ sumN (fun j => trap (nth P j) (nth P (j + 1))) i ≤ 4398046511104000 := by
  have := sumN_bound (f := fun j => trap (nth P j) (nth P (j + 1))) (B := 4398046511104) (n := i) (fun j _ => ⟨(trap_bound (insP_of hb hP j) (insP_of hb hP (j + 1))).1, (trap_bound (insP_of hb hP j) (insP_of hb hP (j + 1))).2.1⟩)
  have : (i : Int) ≤ 1000 := by omega
  omega
theorem area_lp {P : List IP} (hb : InsI P) (hl : P.length ≤ 1000) : ∀ (m i : Nat), i + m = P.length →
    polygon_area_lp1 CG P (sumN (fun j => trap (nth P j) (nth P (j + 1))) i) (P.length : Int) (i : Int) (sds P) = some [.val tI (areaI P)]
  | 0, i, h => by
    refine polygon_area_lp1_st _ _ _ _ _ ?_
    refine neg (ige (by omega)) ?_
    obtain rfl : i = P.length := by omega
    unfold areaI
    by_cases hP : P = []
    · subst hP; rfl
    · have := trapS_bound hb hP hl
      rw [wr64 (by omega) (by omega), Int.zero_sub]
  | m + 1, i, h => by
    have hi : i < P.length := by omega
    have hP : P ≠ [] := by rintro rfl; cases hi
    refine polygon_area_lp1_st _ _ _ _ _ ?_
    rw [sds_len, Int.toNat_natCast, sds_get hi, wrS (by omega)]
    refine pos (ilt hi) (pos (ixn hi) ?_)
    have h1 := trap_bound (insP_of hb hP i) (insP_of hb hP (i + 1))
    rw [h1.2.2]
    have h2 := trapS_bound hb hP (i := i + 1) (by omega)
    have h3 : sumN (fun j => trap (nth P j) (nth P (j + 1))) i + trap (nth P i) (nth P (i + 1)) = sumN (fun j => trap (nth P j) (nth P (j + 1))) (i + 1) := rfl
    rw [h3, wr64 (by omega) (by omega)]
    exact area_lp hb hl m (i + 1) (by omega)
theorem area_ok {P : List IP} (hb : InsI P) (hl : P.length ≤ 1000) : callT CG [.v tI] 15 [.val (.sl t0) P] = some (areaI P) := by
  refine callT_of (polygon_area_st P (r := [.val tI (areaI P)]) ?_) rfl
  refine bnd (sides_ok (by omega)) ?_
  rw [sds_len]
  exact area_lp hb hl P.length 0 (by omega)
theorem prev_w {n i : Nat} (hn : 0 < n) (hl : n + i < 4611686018427387904) : Int.tmod (wr .i64 (wr .i64 ((i : Int) + (n : Int)) - 1)) (n : Int) = (((i + n - 1) % n : Nat) : Int) := by
  rw [wr64 (x := (i : Int) + (n : Int)) (by omega) (by omega), wr64 (by omega) (by omega), show (i : Int) + (n : Int) - 1 = ((i + n - 1 : Nat) : Int) by omega, tmod_nat]
end Pl
end
section
/- Lists: turned round, least elements, rotations. -/
namespace Pl
open Go Geo Pm
/-- the first i elements of both ends exchanged -/
def swp {α : Type} (l : List α) (z : α) (i : Nat) : List α := (List.range l.length).map fun k => if k < i ∨ l.length - 1 - k < i then l.getD (l.length - 1 - k) z else l.getD k z
theorem swp_len {α : Type} (l : List α) (z : α) (i : Nat) : (swp l z i).length = l.length := by simp [swp]
theorem swp_get {α : Type} (l : List α) (z : α) (i k : Nat) (h : k < l.length) : (swp l z i).getD k z = if k < i ∨ l.length - 1 - k < i then l.getD (l.length - 1 - k) z else l.getD k z := range_getD (fun k => if k < i ∨ l.length - 1 - k < i then l.getD (l.length - 1 - k) z else l.getD k z) h z
theorem swp0 {α : Type} (l : List α) (z : α) : swp l z 0 = l := by
  apply List.ext_getElem
  · simp [swp]
  · intro k h1 h2; simp [swp, List.getD, h2]
theorem swp_end {α : Type} (l : List α) (z : α) (i : Nat) (h : l.length ≤ 2 * i + 1) : swp l z i = l.reverse := by
  apply List.ext_getElem
  · simp [swp]
  · intro k h1 h2
    simp only [List.length_reverse] at h2
    simp only [swp, List.getElem_map, List.getElem_range, List.getElem_reverse]
    by_cases hk : k < i ∨ l.length - 1 - k < i
    · rw [if_pos hk, getD_eq (by omega)]
    · rw [if_neg hk, getD_eq h2]
      congr 1
      omega
theorem swp_step {α : Type} (l : List α) (z : α) (i : Nat) (h : 2 * i + 1 < l.length) :
    ((swp l z i).set i ((swp l z i).getD (l.length - 1 - i) z)).set (l.length - 1 - i) ((swp l z i).getD i z) = swp l z (i + 1) := by
  rw [swp_get l z i i (by omega), swp_get l z i (l.length - 1 - i) (by omega), if_neg (by omega), if_neg (by omega)]
  apply List.ext_getElem
  · simp [swp]
  · intro k h1 h2
    simp only [List.length_set, swp_len] at h1
    rw [List.getElem_set, List.getElem_set]
    have e : ∀ j, (swp l z j)[k]'(by rw [swp_len]; exact h1) = if k < j ∨ l.length - 1 - k < j then l.getD (l.length - 1 - k) z else l.getD k z := fun j => by simp [swp]
    rw [e i, e (i + 1)]
    by_cases h3 : l.length - 1 - i = k
    · rw [if_pos h3, if_pos (by omega)]; congr 1; omega
    · rw [if_neg h3]
      by_cases h4 : i = k
      · rw [if_pos h4, if_pos (by omega), h4]
      · rw [if_neg h4]
        by_cases h5 : k < i ∨ l.length - 1 - k < i
        · rw [if_pos h5, if_pos (by omega)]
        · rw [if_neg h5, if_neg (by omega)]
/-- by X and then by Y -/
def lexP (a b : IP) : Prop := a.1 < b.1 ∨ (a.1 = b.1 ∧ a.2 < b.2)
instance (a b : IP) : Decidable (lexP a b) := inferInstanceAs (Decidable (_ ∨ _))
theorem lexP_irr (a : IP) : ¬ lexP a a := by unfold lexP; omega
theorem lexP_trans {a b c : IP} (h : lexP a b) (h2 : lexP b c) : lexP a c := by unfold lexP at *; omega
theorem lexP_eq {a b : IP} (h : ¬ lexP a b) (h2 : ¬ lexP b a) : a = b := by unfold lexP at *; exact Prod.ext (by omega) (by omega)
/-- the place of the least element -/
def IsLeast (l : List IP) (k : Nat) : Prop := k < l.length ∧ (∀ t ∈ l, ¬ lexP t (l.getD k (0, 0))) ∧ ∀ j, j < k → l.getD j (0, 0) ≠ l.getD k (0, 0)
def leastTo (l : List IP) : Nat → Nat
  | 0 => 0
  | i + 1 => if lexP (l.getD i (0, 0)) (l.getD (leastTo l i) (0, 0)) then i else leastTo l i
theorem leastTo_spec (l : List IP) : ∀ i, i ≤ l.length → 0 < i → leastTo l i < i ∧ (∀ j, j < i → ¬ lexP (l.getD j (0, 0)) (l.getD (leastTo l i) (0, 0))) ∧ ∀ j, j < leastTo l i → l.getD j (0, 0) ≠ l.getD (leastTo l i) (0, 0)
  | 0, _, h => by omega
  | i + 1, hi, _ => by
    by_cases h0 : i = 0
    · subst h0
      have h0 : leastTo l 1 = 0 := by simp only [leastTo, lexP_irr (l.getD 0 (0, 0)), if_false]
      rw [show (0 + 1) = 1 from rfl, h0]
      exact ⟨by omega, fun j hj => by obtain rfl : j = 0 := by omega
                                      exact lexP_irr _, fun j hj => by omega⟩
    obtain ⟨h1, h2, h3⟩ := leastTo_spec l i (by omega) (by omega)
    simp only [leastTo]
    by_cases hc : lexP (l.getD i (0, 0)) (l.getD (leastTo l i) (0, 0))
    · rw [if_pos hc]
      refine ⟨by omega, fun j hj => ?_, fun j hj e => ?_⟩
      · by_cases e : j = i
        · rw [e]; exact lexP_irr _
        · exact fun h => h2 j (by omega) (lexP_trans h hc)
      · exact h2 j hj (by rw [e]; exact hc)
    · rw [if_neg hc]
      refine ⟨by omega, fun j hj => ?_, h3⟩
      by_cases e : j = i
      · rw [e]; exact hc
      · exact h2 j (by omega)
def leastAt (l : List IP) : Nat := leastTo l l.length
theorem leastAt_spec {l : List IP} (h : l ≠ []) : IsLeast l (leastAt l) := by
  have hl := List.length_pos_iff.2 h
  obtain ⟨h1, h2, h3⟩ := leastTo_spec l l.length (Nat.le_refl _) hl
  refine ⟨h1, fun t ht => ?_, h3⟩
  obtain ⟨j, hj, rfl⟩ := List.mem_iff_getElem.1 ht
  have := h2 j hj
  rw [getD_eq hj] at this
  exact this
/-- rotated so that the least element is the first -/
def leastL (l : List IP) : List IP := l.drop (leastAt l) ++ l.take (leastAt l)
end Pl
end
section
/- Plane geometry over the rationals: crossing numbers of closed paths. -/
namespace Geo
abbrev Pt := Rat × Rat
/-- twice the signed area of a triangle -/
def cr (a b c : Pt) : Rat := (b.1 - a.1) * (c.2 - a.2) - (b.2 - a.2) * (c.1 - a.1)
/-- how an edge crosses the ray to the right -/
def cc (u v q : Pt) : Int :=
  if u.2 ≤ q.2 ∧ q.2 < v.2 ∧ 0 < cr u v q then 1
  else if v.2 ≤ q.2 ∧ q.2 < u.2 ∧ cr u v q < 0 then -1 else 0
theorem div_nn {a p : Rat} (hp : 0 < p) (h : 0 ≤ a) : 0 ≤ a / p := by
  have e : a / p * p = a := by grind
  rcases Rat.le_total (a := 0) (b := a / p) with h1 | h1
  · exact h1
  · have := Rat.mul_nonneg (show 0 ≤ - (a / p) by grind) (show 0 ≤ p by grind)
    have h0 : a = 0 := by grind
    subst h0
    have : (0 : Rat) / p = 0 := by grind
    rw [this]; exact Rat.le_refl
theorem div_le1 {a p : Rat} (hp : 0 < p) (h : a ≤ p) : a / p ≤ 1 := by
  have h1 := div_nn hp (show 0 ≤ p - a by grind)
  have e : (p - a) / p = 1 - a / p := by grind
  grind
theorem div_pos {a p : Rat} (hp : 0 < p) (h : 0 < a) : 0 < a / p := by
  have h1 := div_nn hp (show 0 ≤ a by grind)
  have e : a / p * p = a := by grind
  have : a / p ≠ 0 := by intro h0; rw [h0] at e; grind
  grind
def On (u v x : Pt) : Prop := ∃ t : Rat, 0 ≤ t ∧ t ≤ 1 ∧ x = (u.1 + t * (v.1 - u.1), u.2 + t * (v.2 - u.2))
theorem cr_anti (u v q : Pt) : cr v u q = - cr u v q := by unfold cr; grind
theorem cr_self1 (u v : Pt) : cr u v u = 0 := by unfold cr; grind
theorem cr_self2 (u v : Pt) : cr u v v = 0 := by unfold cr; grind
theorem cc_anti (u v q : Pt) : cc v u q = - cc u v q := by
  have := cr_anti u v q
  unfold cc
  grind
theorem On_left (u v : Pt) : On u v u := ⟨0, by grind, by grind, by grind⟩
theorem On_right (u v : Pt) : On u v v := ⟨1, by grind, by grind, by grind⟩
theorem On_symm {u v x : Pt} (h : On u v x) : On v u x := by
  obtain ⟨t, h0, h1, rfl⟩ := h
  exact ⟨1 - t, by grind, by grind, by grind⟩
theorem On_cr {u v x : Pt} (h : On u v x) : cr u v x = 0 := by
  obtain ⟨t, h0, h1, rfl⟩ := h
  unfold cr; grind
/-- an affine function along a segment -/
theorem cr_On {u v x : Pt} (p q : Pt) {t : Rat} (h : x = (u.1 + t * (v.1 - u.1), u.2 + t * (v.2 - u.2))) :
    cr p q x = (1 - t) * cr p q u + t * cr p q v := by
  subst h; unfold cr; grind
theorem On_ofY {u v x : Pt} (hc : cr u v x = 0) (h : u.2 < v.2) (h1 : u.2 ≤ x.2) (h2 : x.2 ≤ v.2) : On u v x := by
  have hd : v.2 - u.2 ≠ 0 := by grind
  have hp : 0 < v.2 - u.2 := by grind
  refine ⟨(x.2 - u.2) / (v.2 - u.2), ?_, ?_, ?_⟩
  · exact div_nn hp (by grind)
  · exact div_le1 hp (by grind)
  · unfold cr at hc
    obtain ⟨x1, x2⟩ := x
    simp only at hc h1 h2 ⊢
    have e : (x2 - u.2) / (v.2 - u.2) * (v.2 - u.2) = x2 - u.2 := by grind
    have e2 : (x2 - u.2) / (v.2 - u.2) * (v.1 - u.1) = x1 - u.1 := by
      grind
    rw [e, e2]; grind
theorem ivt {p q s t : Pt} (h1 : cr p q s < 0) (h2 : 0 ≤ cr p q t) : ∃ x, On s t x ∧ cr p q x = 0 ∧ x ≠ s := by
  have hp : 0 < cr p q t - cr p q s := by grind
  refine ⟨_, ⟨(- cr p q s) / (cr p q t - cr p q s), ?_, ?_, rfl⟩, ?_, ?_⟩
  · exact div_nn hp (by grind)
  · exact div_le1 hp (by grind)
  · rw [cr_On p q rfl]; grind
  · intro e
    have := congrArg (cr p q) e
    rw [cr_On p q rfl] at this
    grind
theorem On_Y {u v x : Pt} (h : On u v x) : (u.2 ≤ x.2 ∧ x.2 ≤ v.2) ∨ (v.2 ≤ x.2 ∧ x.2 ≤ u.2) := by
  obtain ⟨t, h0, h1, rfl⟩ := h
  rcases Rat.le_total (a := u.2) (b := v.2) with h | h
  · left
    have a := Rat.mul_nonneg h0 (show 0 ≤ v.2 - u.2 by grind)
    have b := Rat.mul_nonneg (show 0 ≤ 1 - t by grind) (show 0 ≤ v.2 - u.2 by grind)
    constructor <;> grind
  · right
    have a := Rat.mul_nonneg h0 (show 0 ≤ u.2 - v.2 by grind)
    have b := Rat.mul_nonneg (show 0 ≤ 1 - t by grind) (show 0 ≤ u.2 - v.2 by grind)
    constructor <;> grind
def Miss (p q u v : Pt) : Prop := ∀ x, On p q x → ¬ On u v x
/-- what lies in the strip between the rays from p and q, where p is not above q -/
def ff (p q t : Pt) : Int := if p.2 < t.2 ∧ t.2 ≤ q.2 ∧ cr p q t < 0 then 1 else 0
end Geo
end
section
/- The crossing number does not change along a segment that misses the path. -/
namespace Geo
theorem ivt0 {p q s t : Pt} (h1 : cr p q s ≤ 0) (h2 : 0 ≤ cr p q t) : ∃ x, On s t x ∧ cr p q x = 0 := by
  by_cases h : cr p q s = 0
  · exact ⟨s, On_left s t, h⟩
  · obtain ⟨x, a, b, _⟩ := ivt (show cr p q s < 0 by grind) h2
    exact ⟨x, a, b⟩
theorem cr_On0 {p q u v x : Pt} (h : On u v x) (h1 : cr p q u = 0) (h2 : cr p q v = 0) : cr p q x = 0 := by
  obtain ⟨t, _, _, e⟩ := h
  rw [cr_On p q e, h1, h2]; grind
theorem atY {u v p : Pt} (h : u.2 ≤ p.2) (h2 : p.2 < v.2) :
    ∃ w, On u v w ∧ w.2 = p.2 ∧ cr u v p = (v.2 - u.2) * (w.1 - p.1) := by
  have hp : 0 < v.2 - u.2 := by grind
  have e : (p.2 - u.2) / (v.2 - u.2) * (v.2 - u.2) = p.2 - u.2 := by grind
  refine ⟨_, ⟨(p.2 - u.2) / (v.2 - u.2), div_nn hp (by grind), div_le1 hp (by grind), rfl⟩, ?_, ?_⟩
  · grind
  · unfold cr; grind
theorem mul_pos_iff {a b : Rat} (ha : 0 < a) : 0 < a * b ↔ 0 < b := by
  constructor
  · intro h
    by_cases hb : 0 < b
    · exact hb
    · have := Rat.mul_nonneg (show 0 ≤ a by grind) (show 0 ≤ - b by grind)
      grind
  · exact Rat.mul_pos ha
theorem miss1 {p q u v : Pt} (m : Miss p q u v) (u1 : p.2 < u.2) (u2 : u.2 ≤ q.2) (v1 : p.2 < v.2) (v2 : v.2 ≤ q.2)
    (h : cr p q u < 0) : cr p q v < 0 := by
  by_cases hv : cr p q v < 0
  · exact hv
  · obtain ⟨x, hx, h0, _⟩ := ivt h (show 0 ≤ cr p q v by grind)
    have hy := On_Y hx
    exact absurd hx (m x (On_ofY h0 (by grind) (by grind) (by grind)))
theorem miss2 {p q u v : Pt} (m : Miss p q u v) (u1 : u.2 ≤ p.2) (v1 : p.2 < v.2) (v2 : v.2 ≤ q.2) :
    0 < cr u v p ↔ cr p q v < 0 := by
  obtain ⟨w, hw, e, hc⟩ := atY u1 v1
  have hd : 0 < v.2 - u.2 := by grind
  have hw2 : cr p q w = (q.2 - p.2) * (p.1 - w.1) := by unfold cr; rw [e]; grind
  have hq : 0 < q.2 - p.2 := by grind
  have key : ∀ x, On w v x → cr p q x ≠ 0 := by
    intro x hx h0
    have hy := On_Y hx
    have hl := cr_On0 hx (On_cr hw) (cr_self2 u v)
    exact m x (On_ofY h0 (by grind) (by grind) (by grind)) (On_ofY hl (by grind) (by grind) (by grind))
  rw [hc, mul_pos_iff hd]
  constructor
  · intro h
    have a := (mul_pos_iff (b := w.1 - p.1) hq).2 h
    have a' : cr p q w < 0 := by rw [hw2]; grind
    by_cases hv : cr p q v < 0
    · exact hv
    · obtain ⟨x, hx, h0, _⟩ := ivt a' (show 0 ≤ cr p q v by grind)
      exact absurd h0 (key x hx)
  · intro h
    by_cases hv : 0 < w.1 - p.1
    · exact hv
    · have := Rat.mul_nonneg (show 0 ≤ q.2 - p.2 by grind) (show 0 ≤ p.1 - w.1 by grind)
      obtain ⟨x, hx, h0, _⟩ := ivt h (show 0 ≤ cr p q w by grind)
      exact absurd h0 (key x (On_symm hx))
theorem miss4 {p q u v : Pt} (m : Miss p q u v) (u1 : p.2 < u.2) (u2 : u.2 ≤ q.2) (v1 : q.2 < v.2) :
    0 < cr u v q ↔ cr p q u < 0 := by
  obtain ⟨w, hw, e, hc⟩ := atY u2 v1
  have hd : 0 < v.2 - u.2 := by grind
  have hw2 : cr p q w = (q.2 - p.2) * (q.1 - w.1) := by unfold cr; rw [e]; grind
  have hq : 0 < q.2 - p.2 := by grind
  have key : ∀ x, On u w x → cr p q x ≠ 0 := by
    intro x hx h0
    have hy := On_Y hx
    have hl := cr_On0 hx (cr_self1 u v) (On_cr hw)
    exact m x (On_ofY h0 (by grind) (by grind) (by grind)) (On_ofY hl (by grind) (by grind) (by grind))
  rw [hc, mul_pos_iff hd]
  constructor
  · intro h
    have a := (mul_pos_iff (b := w.1 - q.1) hq).2 h
    have a' : cr p q w < 0 := by rw [hw2]; grind
    by_cases hv : cr p q u < 0
    · exact hv
    · obtain ⟨x, hx, h0, _⟩ := ivt a' (show 0 ≤ cr p q u by grind)
      exact absurd h0 (key x (On_symm hx))
  · intro h
    by_cases hv : 0 < w.1 - q.1
    · exact hv
    · have := Rat.mul_nonneg (show 0 ≤ q.2 - p.2 by grind) (show 0 ≤ q.1 - w.1 by grind)
      obtain ⟨x, hx, h0, _⟩ := ivt h (show 0 ≤ cr p q w by grind)
      exact absurd h0 (key x hx)
theorem miss3 {p q u v : Pt} (m : Miss p q u v) (hpq : p.2 ≤ q.2) (u1 : u.2 ≤ p.2) (v1 : q.2 < v.2) :
    0 < cr u v p ↔ 0 < cr u v q := by
  have key : ∀ x, On p q x → cr u v x ≠ 0 := by
    intro x hx h0
    have hy := On_Y hx
    exact m x hx (On_ofY h0 (by grind) (by grind) (by grind))
  constructor
  · intro h
    by_cases hv : 0 < cr u v q
    · exact hv
    · obtain ⟨x, hx, h0⟩ := ivt0 (show cr u v q ≤ 0 by grind) (show 0 ≤ cr u v p by grind)
      exact absurd h0 (key x (On_symm hx))
  · intro h
    by_cases hv : 0 < cr u v p
    · exact hv
    · obtain ⟨x, hx, h0⟩ := ivt0 (show cr u v p ≤ 0 by grind) (show 0 ≤ cr u v q by grind)
      exact absurd h0 (key x hx)
theorem cc_move_up {p q u v : Pt} (m : Miss p q u v) (hpq : p.2 ≤ q.2) (huv : u.2 ≤ v.2) :
    cc u v q - cc u v p = ff p q u - ff p q v := by
  by_cases u1 : u.2 ≤ p.2
  · by_cases v0 : v.2 ≤ p.2
    · unfold cc ff; grind
    · by_cases v1 : v.2 ≤ q.2
      · have h := miss2 m u1 (by grind) v1
        unfold cc ff; grind
      · have h := miss3 m hpq u1 (by grind)
        unfold cc ff; grind
  · by_cases u2 : u.2 ≤ q.2
    · by_cases v1 : v.2 ≤ q.2
      · have h1 := miss1 m (by grind) u2 (by grind) v1
        have h2 := miss1 (u := v) (v := u) (fun x a b => m x a (On_symm b)) (by grind) v1 (by grind) u2
        unfold cc ff; grind
      · have h := miss4 m (by grind) u2 (by grind)
        unfold cc ff; grind
    · unfold cc ff; grind
theorem cc_move {p q u v : Pt} (m : Miss p q u v) (hpq : p.2 ≤ q.2) :
    cc u v q - cc u v p = ff p q u - ff p q v := by
  rcases Rat.le_total (a := u.2) (b := v.2) with h | h
  · exact cc_move_up m hpq h
  · have := cc_move_up (u := v) (v := u) (fun x a b => m x a (On_symm b)) hpq h
    rw [cc_anti u v, cc_anti u v] at this
    omega
end Geo
end
section
/- Paths, closed paths, simple polygons. -/
namespace Geo
def es : List Pt → List (Pt × Pt)
  | a :: b :: l => (a, b) :: es (b :: l)
  | _ => []
def pw : List Pt → Pt → Int
  | a :: b :: l, q => cc a b q + pw (b :: l) q
  | _, _ => 0
/-- the sides of a closed path -/
def ces : List Pt → List (Pt × Pt)
  | [] => []
  | a :: l => es (a :: (l ++ [a]))
/-- the winding number of a closed path -/
def cw : List Pt → Pt → Int
  | [], _ => 0
  | a :: l, q => pw (a :: (l ++ [a])) q
@[simp] theorem es_one (a : Pt) : es [a] = [] := rfl
@[simp] theorem es_nil : es [] = [] := rfl
@[simp] theorem es_two (a b : Pt) (l : List Pt) : es (a :: b :: l) = (a, b) :: es (b :: l) := rfl
@[simp] theorem pw_one (a q : Pt) : pw [a] q = 0 := rfl
@[simp] theorem pw_nil (q : Pt) : pw [] q = 0 := rfl
@[simp] theorem pw_two (a b q : Pt) (l : List Pt) : pw (a :: b :: l) q = cc a b q + pw (b :: l) q := rfl
theorem es_split (A : List Pt) (x : Pt) (B : List Pt) : es (A ++ x :: B) = es (A ++ [x]) ++ es (x :: B) := by
  induction A with
  | nil => simp
  | cons a A ih =>
    cases A with
    | nil => simp
    | cons b A => simp only [List.cons_append, es_two] at ih ⊢; rw [ih]
theorem pw_split (A : List Pt) (x : Pt) (B : List Pt) (q : Pt) : pw (A ++ x :: B) q = pw (A ++ [x]) q + pw (x :: B) q := by
  induction A with
  | nil => simp
  | cons a A ih =>
    cases A with
    | nil => simp
    | cons b A => simp only [List.cons_append, pw_two] at ih ⊢; rw [ih]; omega
theorem pw_snoc (A : List Pt) (x y q : Pt) : pw (A ++ [x] ++ [y]) q = pw (A ++ [x]) q + cc x y q := by
  have := pw_split A x [y] q
  simp only [List.append_assoc, List.cons_append, List.nil_append]
  rw [this]; simp
theorem es_snoc (A : List Pt) (x y : Pt) : es (A ++ [x] ++ [y]) = es (A ++ [x]) ++ [(x, y)] := by
  have := es_split A x [y]
  simp only [List.append_assoc, List.cons_append, List.nil_append]
  rw [this]; simp
theorem es_mem {L : List Pt} {e : Pt × Pt} (h : e ∈ es L) : e.1 ∈ L ∧ e.2 ∈ L := by
  induction L with
  | nil => simp at h
  | cons a L ih =>
    cases L with
    | nil => simp at h
    | cons b L =>
      simp only [es_two, List.mem_cons] at h
      rcases h with rfl | h
      · simp
      · have := ih h
        exact ⟨List.mem_cons_of_mem _ this.1, List.mem_cons_of_mem _ this.2⟩
theorem cw_rot (A B : List Pt) (q : Pt) : cw (A ++ B) q = cw (B ++ A) q := by
  cases A with
  | nil => simp
  | cons a A =>
    cases B with
    | nil => simp
    | cons b B =>
      simp only [List.cons_append, cw, List.append_assoc]
      have h1 := pw_split (a :: A) b (B ++ [a]) q
      have h2 := pw_split (b :: B) a (A ++ [b]) q
      simp only [List.cons_append, List.append_assoc] at h1 h2
      rw [h1, h2]; omega
theorem ces_rot (A B : List Pt) (e : Pt × Pt) : e ∈ ces (A ++ B) ↔ e ∈ ces (B ++ A) := by
  cases A with
  | nil => simp
  | cons a A =>
    cases B with
    | nil => simp
    | cons b B =>
      simp only [List.cons_append, ces, List.append_assoc]
      have h1 := es_split (a :: A) b (B ++ [a])
      have h2 := es_split (b :: B) a (A ++ [b])
      simp only [List.cons_append, List.append_assoc] at h1 h2
      rw [h1, h2]; simp only [List.mem_append]; exact Or.comm
theorem pw_rev (L : List Pt) (q : Pt) : pw L.reverse q = - pw L q := by
  induction L with
  | nil => simp
  | cons a L ih =>
    cases L with
    | nil => simp
    | cons b L =>
      rw [List.reverse_cons, List.reverse_cons] at *
      rw [pw_snoc, ih, cc_anti a b]; simp; omega
theorem es_rev (L : List Pt) (e : Pt × Pt) : e ∈ es L.reverse ↔ (e.2, e.1) ∈ es L := by
  induction L with
  | nil => simp
  | cons a L ih =>
    cases L with
    | nil => simp
    | cons b L =>
      rw [List.reverse_cons, List.reverse_cons] at *
      rw [es_snoc, List.mem_append, ih]
      obtain ⟨e1, e2⟩ := e
      simp only [es_two, List.mem_cons, List.mem_singleton, Prod.mk.injEq, List.not_mem_nil, or_false]
      constructor
      · rintro (h | ⟨rfl, rfl⟩)
        · exact Or.inr h
        · exact Or.inl ⟨rfl, rfl⟩
      · rintro (⟨rfl, rfl⟩ | h)
        · exact Or.inr ⟨rfl, rfl⟩
        · exact Or.inl h
theorem cw_rev (P : List Pt) (q : Pt) : cw P.reverse q = - cw P q := by
  cases P with
  | nil => simp [cw]
  | cons a l =>
    rw [List.reverse_cons, cw_rot]
    show pw (a :: (l.reverse ++ [a])) q = - pw (a :: (l ++ [a])) q
    rw [← pw_rev]; simp
theorem ces_rev (P : List Pt) (e : Pt × Pt) : e ∈ ces P.reverse ↔ (e.2, e.1) ∈ ces P := by
  cases P with
  | nil => simp [ces]
  | cons a l =>
    rw [List.reverse_cons, ces_rot]
    show e ∈ es (a :: (l.reverse ++ [a])) ↔ (e.2, e.1) ∈ es (a :: (l ++ [a]))
    rw [← es_rev]; simp
theorem ces_out {P : List Pt} {w : Pt} (h : w ∈ P) : ∃ w', (w, w') ∈ ces P := by
  obtain ⟨A, B, rfl⟩ := List.append_of_mem h
  cases B with
  | nil =>
    cases A with
    | nil => exact ⟨w, by simp [ces]⟩
    | cons a A =>
      refine ⟨a, ?_⟩
      rw [ces_rot]; simp [ces]
  | cons b B =>
    refine ⟨b, ?_⟩
    rw [ces_rot]; simp [ces]
/-! moving a point -/
theorem pw_move {p q : Pt} (hpq : p.2 ≤ q.2) (L : List Pt) (a b : Pt) (m : ∀ e ∈ es (a :: (L ++ [b])), Miss p q e.1 e.2) :
    pw (a :: (L ++ [b])) q - pw (a :: (L ++ [b])) p = ff p q a - ff p q b := by
  induction L generalizing a with
  | nil =>
    have := cc_move (m (a, b) (by simp)) hpq
    simp at *; omega
  | cons c L ih =>
    have h1 := cc_move (m (a, c) (by simp)) hpq
    have h2 := ih c (fun e he => m e (by simp at he ⊢; exact Or.inr he))
    simp only [List.cons_append, pw_two] at *
    omega
theorem cw_move1 {p q : Pt} (hpq : p.2 ≤ q.2) (P : List Pt) (m : ∀ e ∈ ces P, Miss p q e.1 e.2) : cw P q = cw P p := by
  cases P with
  | nil => rfl
  | cons a l =>
    have := pw_move hpq l a a m
    simp only [cw]; omega
theorem Miss_symm {p q u v : Pt} (m : Miss p q u v) : Miss q p u v := fun x a b => m x (On_symm a) b
theorem cw_move {p q : Pt} (P : List Pt) (m : ∀ e ∈ ces P, Miss p q e.1 e.2) : cw P q = cw P p := by
  rcases Rat.le_total (a := p.2) (b := q.2) with h | h
  · exact cw_move1 h P m
  · exact (cw_move1 h P (fun e he => Miss_symm (m e he))).symm
/-! simple polygons -/
structure Simp (P : List Pt) : Prop where
  len : 3 ≤ P.length
  nodup : P.Nodup
  meet : ∀ e ∈ ces P, ∀ f ∈ ces P, e ≠ f → ∀ x, On e.1 e.2 x → On f.1 f.2 x → (x = e.1 ∨ x = e.2) ∧ (x = f.1 ∨ x = f.2)
theorem Simp.rot {A B : List Pt} (h : Simp (A ++ B)) : Simp (B ++ A) where
  len := by have := h.len; simp at *; omega
  nodup := by have := h.nodup; rw [List.nodup_append] at *; exact ⟨this.2.1, this.1, fun a ha b hb e => this.2.2 b hb a ha e.symm⟩
  meet := by
    intro e he f hf
    rw [ces_rot] at he hf
    exact h.meet e he f hf
theorem Simp.rev {P : List Pt} (h : Simp P) : Simp P.reverse where
  len := by have := h.len; simp at *; omega
  nodup := by have := h.nodup; exact (List.reverse_perm P).nodup_iff.2 this
  meet := by
    intro e he f hf hne x hx hy
    rw [ces_rev] at he hf
    have := h.meet _ he _ hf (by intro e1; apply hne; simp only [Prod.mk.injEq] at e1; exact Prod.ext e1.2 e1.1) x (On_symm hx) (On_symm hy)
    exact ⟨this.1.symm, this.2.symm⟩
theorem Simp.vert {P : List Pt} (h : Simp P) {e : Pt × Pt} (he : e ∈ ces P) {w : Pt} (hw : w ∈ P) (ho : On e.1 e.2 w) : w = e.1 ∨ w = e.2 := by
  obtain ⟨w', hf⟩ := ces_out hw
  by_cases h1 : e = (w, w')
  · left; rw [h1]
  · exact (h.meet e he (w, w') hf h1 w ho (On_left _ _)).1
def Rot (P Q : List Pt) : Prop := ∃ A B, P = A ++ B ∧ Q = B ++ A
theorem Rot.symm {P Q : List Pt} (h : Rot P Q) : Rot Q P := by
  obtain ⟨A, B, rfl, rfl⟩ := h
  exact ⟨B, A, rfl, rfl⟩
theorem Rot.cw {P Q : List Pt} (h : Rot P Q) (q : Pt) : cw P q = Geo.cw Q q := by
  obtain ⟨A, B, rfl, rfl⟩ := h
  exact cw_rot A B q
theorem Rot.ces {P Q : List Pt} (h : Rot P Q) (e : Pt × Pt) : e ∈ ces P ↔ e ∈ Geo.ces Q := by
  obtain ⟨A, B, rfl, rfl⟩ := h
  exact ces_rot A B e
theorem Rot.simp {P Q : List Pt} (h : Rot P Q) (hs : Simp P) : Simp Q := by
  obtain ⟨A, B, rfl, rfl⟩ := h
  exact hs.rot
theorem Rot.mem {P Q : List Pt} (h : Rot P Q) (w : Pt) : w ∈ P ↔ w ∈ Q := by
  obtain ⟨A, B, rfl, rfl⟩ := h
  simp [Or.comm]
theorem Rot.length {P Q : List Pt} (h : Rot P Q) : P.length = Q.length := by
  obtain ⟨A, B, rfl, rfl⟩ := h
  simp; omega
theorem Rot.nodup {P Q : List Pt} (h : Rot P Q) (hn : P.Nodup) : Q.Nodup := by
  obtain ⟨A, B, rfl, rfl⟩ := h
  exact (List.perm_append_comm).nodup_iff.1 hn
theorem es_cut {L : List Pt} {u v : Pt} (h : (u, v) ∈ es L) : ∃ A B, L = A ++ u :: v :: B := by
  induction L with
  | nil => simp at h
  | cons a L ih =>
    cases L with
    | nil => simp at h
    | cons b L =>
      simp only [es_two, List.mem_cons, Prod.mk.injEq] at h
      rcases h with ⟨rfl, rfl⟩ | h
      · exact ⟨[], L, rfl⟩
      · obtain ⟨A, B, e⟩ := ih h
        exact ⟨a :: A, B, by rw [e]; rfl⟩
theorem ces_cut {P : List Pt} (hl : 2 ≤ P.length) {u v : Pt} (h : (u, v) ∈ ces P) : ∃ R, Rot P (u :: v :: R) := by
  cases P with
  | nil => simp at hl
  | cons a l =>
    obtain ⟨A, B, e⟩ := es_cut h
    rcases List.eq_nil_or_concat B with rfl | ⟨B', x, rfl⟩
    · cases A with
      | nil =>
        simp only [List.nil_append, List.cons.injEq] at e
        obtain ⟨rfl, e⟩ := e
        cases l with
        | nil => simp at hl
        | cons c l => simp at e
      | cons a' A =>
        simp only [List.cons_append, List.cons.injEq] at e
        obtain ⟨rfl, e⟩ := e
        have e' : l ++ [a] = (A ++ [u]) ++ [v] := by rw [e]; simp
        have h1 := List.append_inj' e' rfl
        obtain ⟨h1, h2⟩ := h1
        simp only [List.cons.injEq, and_true] at h2
        subst h2
        exact ⟨A, a :: A, [u], by rw [h1]; simp, by simp⟩
    · have e' : (a :: l) ++ [a] = (A ++ u :: v :: B') ++ [x] := by simpa using e
      have h1 := (List.append_inj' e' rfl).1
      exact ⟨B' ++ A, A, u :: v :: B', h1, by simp⟩
theorem Simp.ne {P : List Pt} (h : Simp P) {e : Pt × Pt} (he : e ∈ ces P) : e.1 ≠ e.2 := by
  have hl := h.len
  obtain ⟨u, v⟩ := e
  obtain ⟨R, hR⟩ := ces_cut (by omega) he
  have := hR.nodup h.nodup
  simp at this
  intro e
  exact this.1.1 e
/-- two points that see one another -/
def Diag (P : List Pt) (m z : Pt) : Prop :=
  ∀ e ∈ ces P, ∀ x, On e.1 e.2 x → On m z x → (x = e.1 ∨ x = e.2) ∧ (x = m ∨ x = z)
theorem Diag.symm {P : List Pt} {m z : Pt} (h : Diag P m z) : Diag P z m :=
  fun e he x hx hy => ⟨(h e he x hx (On_symm hy)).1, (h e he x hx (On_symm hy)).2.symm⟩
theorem Simp.sub {P Q : List Pt} {m z : Pt} (h : Simp P) (d : Diag P m z) (hl : 3 ≤ Q.length) (hn : Q.Nodup)
    (hs : ∀ e ∈ ces Q, e ∈ ces P ∨ e = (m, z)) : Simp Q where
  len := hl
  nodup := hn
  meet := by
    intro e he f hf hne x hx hy
    rcases hs e he with h1 | rfl <;> rcases hs f hf with h2 | rfl
    · exact h.meet e h1 f h2 hne x hx hy
    · exact d e h1 x hx hy
    · exact (d f h2 x hy hx).symm
    · exact absurd rfl hne
end Geo
end
