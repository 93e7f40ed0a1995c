/- Parts of the proof of TriangleHolds, joined: Eq, P1, P11, P11b, B0, C11a, C11b, R11a, L0, G1, G3, G4, G5, G6, G7, G8, G11, G12, G13, R11b, C11d, G14, G15, G16, G17, N11, K11, C13a, Aw13, LTriangleHolds. -/
import Derived.Test.YtbfiafblabdoeaaTriangleHoldsQ1
import Derived.KernelRfl
set_option linter.unusedVariables false
set_option linter.unusedSimpArgs false
section
/- What each function comes to: written by a program of mine; the kernel checks each. -/
namespace Pm
open Go
set_option maxRecDepth 20000
set_option linter.unusedVariables false
theorem garmentlaw13_TriangleHolds_st {r : R} (a0 : (List (Int × Int))) (a1 : (Int × Int)) (h : ((callT CG [.v .bool] 0 [.val (.sl t0) a0]).bind fun (r1 : Bool) => (if r1 = true then ((callT CG [.v .bool] 1 []).bind fun (r2 : Bool) => (some [.val .bool r2])) else ((callT CG [.v tI] 2 [.val (.sl t0) a0, .val t0 a1]).bind fun (r3 : Int) => ((callT CG [.v tI] 3 [.val (.sl t0) a0, .val t0 a1]).bind fun (r4 : Int) => (if (r3 == r4) = true then ((callT CG [.v .bool] 1 []).bind fun (r5 : Bool) => (some [.val .bool r5])) else (some [.val .bool false])))))) = some r) : CG 4 [.val (.sl t0) a0, .val t0 a1] = some r := limC_run (f := cf_garmentlaw13_TriangleHolds) (by kernel_rfl) (by kernel_rfl) (Eq.trans (by kernel_rfl) h)
theorem garmentlaw13_many_st {r : R} (a0 : (List (Int × Int))) (h : (some [.val .bool (decide (((List.length a0 : Nat) : Int) > (60 : Int)))]) = some r) : CG 0 [.val (.sl t0) a0] = some r := limC_run (f := cf_garmentlaw13_many) (by kernel_rfl) (by kernel_rfl) (Eq.trans (by kernel_rfl) h)
noncomputable def garmentref11_Check_lp1 (C : CallF) (a0 : (List (Int × Int))) (v0 : (List (Int × Int))) (v1 : Int) : Option R := lpAt C cf_garmentref11_Check [.val (.sl t0) a0] [1, 1, 1, 0, 1, 0] [.d (.val (.sl t0) v0), .d (.undef), .d (.undef), .d (.val tI v1), .d (.undef), .d (.undef), .d (.undef), .d (.undef), .d (.undef), .d (.undef), .d (.undef), .d (.undef), .d (.undef), .d (.undef), .d (.undef), .d (.undef), .d (.undef), .d (.undef), .d (.undef), .d (.undef), .d (.undef), .d (.undef), .d (.undef), .d (.undef), .d (.undef)] (ofL [])
theorem garmentref11_Check_st {r : R} (a0 : (List (Int × Int))) (h : (if (decide (((List.length a0 : Nat) : Int) > (40 : Int))) = true then (some [.val tI (5 : Int)]) else (if (decide (((List.length a0 : Nat) : Int) < (3 : Int))) = true then (some [.val tI (11 : Int)]) else (garmentref11_Check_lp1 CG a0 a0 (0 : Int)))) = some r) : CG 67 [.val (.sl t0) a0] = some r := limC_run (f := cf_garmentref11_Check) (by kernel_rfl) (by kernel_rfl) (Eq.trans (by kernel_rfl) h)
theorem garmentref11_Check_lp1_st {C : CallF} {r : R} (a0 : (List (Int × Int))) (v0 : (List (Int × Int))) (v1 : Int) (h : (if (decide (v1 < ((List.length v0 : Nat) : Int))) = true then (if (0 ≤ v1 ∧ v1 < ((List.length v0 : Nat) : Int)) then ((callT C [.v .bool] 68 [.val t0 (List.getD v0 (Int.toNat v1) ((0 : Int), (0 : Int))), .val tI (1048576 : Int)]).bind fun (r1 : Bool) => (if (!r1) = true then (some [.val tI (3 : Int)]) else (garmentref11_Check_lp1 C a0 v0 (wr .i64 (v1 + (1 : Int)))))) else none) else ((callT C [.v .bool] 69 [.val (.sl t0) v0]).bind fun (r2 : Bool) => (if (!r2) = true then (some [.val tI (11 : Int)]) else (some [.val tI (0 : Int)])))) = some r) : garmentref11_Check_lp1 C a0 v0 v1 = some r := lpAt_of (Eq.trans (by kernel_rfl) h)
theorem garmentref11_Cross_st {r : R} (a0 : (Int × Int)) (a1 : (Int × Int)) (a2 : (Int × Int)) (h : (some [.val tI (wr .i64 ((wr .i64 ((wr .i64 (a1.1 - a0.1)) * (wr .i64 (a2.2 - a0.2)))) - (wr .i64 ((wr .i64 (a1.2 - a0.2)) * (wr .i64 (a2.1 - a0.1))))))]) = some r) : CG 33 [.val t0 a0, .val t0 a1, .val t0 a2] = some r := limC_run (f := cf_garmentref11_Cross) (by kernel_rfl) (by kernel_rfl) (Eq.trans (by kernel_rfl) h)
theorem garmentref11_Within_st {r : R} (a0 : (Int × Int)) (a1 : Int) (h : (if (decide (a0.1 ≥ (wr .i64 (0 - a1)))) = true then (if (decide (a0.1 ≤ a1)) = true then (if (decide (a0.2 ≥ (wr .i64 (0 - a1)))) = true then (some [.val .bool (decide (a0.2 ≤ a1))]) else (some [.val .bool false])) else (some [.val .bool false])) else (some [.val .bool false])) = some r) : CG 68 [.val t0 a0, .val tI a1] = some r := limC_run (f := cf_garmentref11_Within) (by kernel_rfl) (by kernel_rfl) (Eq.trans (by kernel_rfl) h)
noncomputable def garmentref11_simple_lp1 (C : CallF) (a0 : (List (Int × Int))) (v0 : (List (Int × Int))) (v1 : Int) (v2 : Int) : Option R := lpAt C cf_garmentref11_simple [.val (.sl t0) a0] [1, 1, 0, 1, 0] [.d (.val (.sl t0) v0), .d (.undef), .d (.undef), .d (.val tI v1), .d (.val tI v2), .d (.undef), .d (.undef), .d (.undef), .d (.undef), .d (.undef), .d (.undef), .d (.undef), .d (.undef), .d (.undef), .d (.undef), .d (.undef), .d (.undef), .d (.undef), .d (.undef), .d (.undef), .d (.undef), .d (.undef), .d (.undef), .d (.undef), .d (.undef), .d (.undef), .d (.undef), .d (.undef), .d (.undef), .d (.undef), .d (.undef), .d (.undef), .d (.undef), .d (.undef), .d (.undef), .d (.undef), .d (.undef), .d (.undef), .d (.undef), .d (.undef), .d (.undef), .d (.undef), .d (.undef), .d (.undef), .d (.undef), .d (.undef), .d (.undef), .d (.undef), .d (.undef), .d (.undef), .d (.undef), .d (.undef), .d (.undef), .d (.undef), .d (.undef), .d (.undef), .d (.undef), .d (.undef), .d (.undef), .d (.undef), .d (.undef), .d (.undef), .d (.undef), .d (.undef), .d (.undef), .d (.undef), .d (.undef), .d (.undef), .d (.undef), .d (.undef), .d (.undef), .d (.undef), .d (.undef), .d (.undef), .d (.undef), .d (.undef), .d (.undef), .d (.undef)] (ofL [])
noncomputable def garmentref11_simple_lp2 (C : CallF) (a0 : (List (Int × Int))) (v0 : (List (Int × Int))) (v1 : Int) (v2 : Int) (v3 : Int) (v4 : (Int × Int)) (v5 : (Int × Int)) : Option R := lpAt C cf_garmentref11_simple [.val (.sl t0) a0] [1, 1, 0, 1, 0, 0, 1, 0, 0, 1, 1, 1, 1, 0] [.d (.val (.sl t0) v0), .d (.undef), .d (.undef), .d (.val tI v1), .d (.val tI v2), .d (.ptr 200000 0 []), .d (.ptr 200001 0 []), .d (.undef), .d (.val tI v3), .d (.undef), .d (.undef), .d (.undef), .d (.undef), .d (.undef), .d (.undef), .d (.undef), .d (.undef), .d (.undef), .d (.undef), .d (.undef), .d (.undef), .d (.undef), .d (.undef), .d (.undef), .d (.undef), .d (.undef), .d (.undef), .d (.undef), .d (.undef), .d (.undef), .d (.undef), .d (.undef), .d (.undef), .d (.undef), .d (.undef), .d (.undef), .d (.undef), .d (.undef), .d (.undef), .d (.undef), .d (.undef), .d (.undef), .d (.undef), .d (.undef), .d (.undef), .d (.undef), .d (.undef), .d (.undef), .d (.undef), .d (.undef), .d (.undef), .d (.undef), .d (.undef), .d (.undef), .d (.undef), .d (.undef), .d (.undef), .d (.undef), .d (.undef), .d (.undef), .d (.undef), .d (.undef), .d (.undef), .d (.undef), .d (.undef), .d (.undef), .d (.undef), .d (.undef), .d (.undef), .d (.undef), .d (.undef), .d (.undef), .d (.undef), .d (.undef), .d (.undef), .d (.undef), .d (.undef), .d (.undef)] (ofL [(200000, .box t0 (.val t0 v4)), (200001, .box t0 (.val t0 v5))])
theorem garmentref11_simple_st {r : R} (a0 : (List (Int × Int))) (h : (garmentref11_simple_lp1 CG a0 a0 ((List.length a0 : Nat) : Int) (0 : Int)) = some r) : CG 69 [.val (.sl t0) a0] = some r := limC_run (f := cf_garmentref11_simple) (by kernel_rfl) (by kernel_rfl) (Eq.trans (by kernel_rfl) h)
theorem garmentref11_simple_lp1_st {C : CallF} {r : R} (a0 : (List (Int × Int))) (v0 : (List (Int × Int))) (v1 : Int) (v2 : Int) (h : (if (decide (v2 < v1)) = true then (if (0 ≤ v2 ∧ v2 < ((List.length v0 : Nat) : Int)) then (if (v1 ≠ 0) then (if (0 ≤ (Int.tmod (wr .i64 (v2 + (1 : Int))) v1) ∧ (Int.tmod (wr .i64 (v2 + (1 : Int))) v1) < ((List.length v0 : Nat) : Int)) then (if (v1 ≠ 0) then (if (0 ≤ (Int.tmod (wr .i64 (v2 + (2 : Int))) v1) ∧ (Int.tmod (wr .i64 (v2 + (2 : Int))) v1) < ((List.length v0 : Nat) : Int)) then (if (((List.getD v0 (Int.toNat v2) ((0 : Int), (0 : Int))).1 == (List.getD v0 (Int.toNat (Int.tmod (wr .i64 (v2 + (1 : Int))) v1)) ((0 : Int), (0 : Int))).1) && ((List.getD v0 (Int.toNat v2) ((0 : Int), (0 : Int))).2 == (List.getD v0 (Int.toNat (Int.tmod (wr .i64 (v2 + (1 : Int))) v1)) ((0 : Int), (0 : Int))).2)) = true then (some [.val .bool false]) else ((callT C [.v .bool] 70 [.val t0 (List.getD v0 (Int.toNat v2) ((0 : Int), (0 : Int))), .val t0 (List.getD v0 (Int.toNat (Int.tmod (wr .i64 (v2 + (1 : Int))) v1)) ((0 : Int), (0 : Int))), .val t0 (List.getD v0 (Int.toNat (Int.tmod (wr .i64 (v2 + (2 : Int))) v1)) ((0 : Int), (0 : Int)))]).bind fun (r1 : Bool) => (if r1 = true then (some [.val .bool false]) else ((callT C [.v .bool] 70 [.val t0 (List.getD v0 (Int.toNat (Int.tmod (wr .i64 (v2 + (1 : Int))) v1)) ((0 : Int), (0 : Int))), .val t0 (List.getD v0 (Int.toNat (Int.tmod (wr .i64 (v2 + (2 : Int))) v1)) ((0 : Int), (0 : Int))), .val t0 (List.getD v0 (Int.toNat v2) ((0 : Int), (0 : Int)))]).bind fun (r2 : Bool) => (if r2 = true then (some [.val .bool false]) else (garmentref11_simple_lp2 C a0 v0 v1 v2 (wr .i64 (v2 + (2 : Int))) (List.getD v0 (Int.toNat v2) ((0 : Int), (0 : Int))) (List.getD v0 (Int.toNat (Int.tmod (wr .i64 (v2 + (1 : Int))) v1)) ((0 : Int), (0 : Int))))))))) else none) else none) else none) else none) else none) else (some [.val .bool true])) = some r) : garmentref11_simple_lp1 C a0 v0 v1 v2 = some r := lpAt_of (Eq.trans (by kernel_rfl) h)
theorem garmentref11_simple_lp2_st {C : CallF} {r : R} (a0 : (List (Int × Int))) (v0 : (List (Int × Int))) (v1 : Int) (v2 : Int) (v3 : Int) (v4 : (Int × Int)) (v5 : (Int × Int)) (h : (if (decide (v3 < v1)) = true then (if (v1 ≠ 0) then (if ((Int.tmod (wr .i64 (v3 + (1 : Int))) v1) != v2) = true then (if (0 ≤ v3 ∧ v3 < ((List.length v0 : Nat) : Int)) then (if (v1 ≠ 0) then (if (0 ≤ (Int.tmod (wr .i64 (v3 + (1 : Int))) v1) ∧ (Int.tmod (wr .i64 (v3 + (1 : Int))) v1) < ((List.length v0 : Nat) : Int)) then ((callT C [.v .bool] 71 [.val t0 v4, .val t0 v5, .val t0 (List.getD v0 (Int.toNat v3) ((0 : Int), (0 : Int))), .val t0 (List.getD v0 (Int.toNat (Int.tmod (wr .i64 (v3 + (1 : Int))) v1)) ((0 : Int), (0 : Int)))]).bind fun (r1 : Bool) => (if r1 = true then (some [.val .bool false]) else (garmentref11_simple_lp2 C a0 v0 v1 v2 (wr .i64 (v3 + (1 : Int))) v4 v5))) else none) else none) else none) else (garmentref11_simple_lp2 C a0 v0 v1 v2 (wr .i64 (v3 + (1 : Int))) v4 v5)) else none) else (garmentref11_simple_lp1 C a0 v0 v1 (wr .i64 (v2 + (1 : Int))))) = some r) : garmentref11_simple_lp2 C a0 v0 v1 v2 v3 v4 v5 = some r := lpAt_of (Eq.trans (by kernel_rfl) h)
theorem garmentref11_Between_st {r : R} (a0 : (Int × Int)) (a1 : (Int × Int)) (a2 : (Int × Int)) (h : ((callT CG [.v tI] 33 [.val t0 a0, .val t0 a1, .val t0 a2]).bind fun (r1 : Int) => (if (r1 == (0 : Int)) = true then (if (decide ((if a1.1 < a0.1 then a1.1 else a0.1) ≤ a2.1)) = true then (if (decide (a2.1 ≤ (if a1.1 > a0.1 then a1.1 else a0.1))) = true then (if (decide ((if a1.2 < a0.2 then a1.2 else a0.2) ≤ a2.2)) = true then (some [.val .bool (decide (a2.2 ≤ (if a1.2 > a0.2 then a1.2 else a0.2)))]) else (some [.val .bool false])) else (some [.val .bool false])) else (some [.val .bool false])) else (some [.val .bool false]))) = some r) : CG 70 [.val t0 a0, .val t0 a1, .val t0 a2] = some r := limC_run (f := cf_garmentref11_Between) (by kernel_rfl) (by kernel_rfl) (Eq.trans (by kernel_rfl) h)
theorem garmentref11_meet_st {r : R} (a0 : (Int × Int)) (a1 : (Int × Int)) (a2 : (Int × Int)) (a3 : (Int × Int)) (h : ((callT CG [.v .bool] 70 [.val t0 a0, .val t0 a1, .val t0 a2]).bind fun (r1 : Bool) => (if r1 = true then (some [.val .bool true]) else ((callT CG [.v .bool] 70 [.val t0 a0, .val t0 a1, .val t0 a3]).bind fun (r2 : Bool) => (if r2 = true then (some [.val .bool true]) else ((callT CG [.v .bool] 70 [.val t0 a2, .val t0 a3, .val t0 a0]).bind fun (r3 : Bool) => (if r3 = true then (some [.val .bool true]) else ((callT CG [.v .bool] 70 [.val t0 a2, .val t0 a3, .val t0 a1]).bind fun (r4 : Bool) => (if r4 = true then (some [.val .bool true]) else ((callT CG [.v tI] 33 [.val t0 a0, .val t0 a1, .val t0 a2]).bind fun (r5 : Int) => ((callT CG [.v tI] 72 [.val tI r5]).bind fun (r6 : Int) => ((callT CG [.v tI] 33 [.val t0 a0, .val t0 a1, .val t0 a3]).bind fun (r7 : Int) => ((callT CG [.v tI] 72 [.val tI r7]).bind fun (r8 : Int) => (if (decide ((wr .i64 (r6 * r8)) < (0 : Int))) = true then ((callT CG [.v tI] 33 [.val t0 a2, .val t0 a3, .val t0 a0]).bind fun (r9 : Int) => ((callT CG [.v tI] 72 [.val tI r9]).bind fun (r10 : Int) => ((callT CG [.v tI] 33 [.val t0 a2, .val t0 a3, .val t0 a1]).bind fun (r11 : Int) => ((callT CG [.v tI] 72 [.val tI r11]).bind fun (r12 : Int) => (some [.val .bool (decide ((wr .i64 (r10 * r12)) < (0 : Int)))]))))) else (some [.val .bool false])))))))))))))) = some r) : CG 71 [.val t0 a0, .val t0 a1, .val t0 a2, .val t0 a3] = some r := limC_run (f := cf_garmentref11_meet) (by kernel_rfl) (by kernel_rfl) (Eq.trans (by kernel_rfl) h)
theorem garmentref11_sign_st {r : R} (a0 : Int) (h : (if (decide (a0 > (0 : Int))) = true then (some [.val tI (1 : Int)]) else (if (decide (a0 < (0 : Int))) = true then (some [.val tI ((-1) : Int)]) else (some [.val tI (0 : Int)]))) = some r) : CG 72 [.val tI a0] = some r := limC_run (f := cf_garmentref11_sign) (by kernel_rfl) (by kernel_rfl) (Eq.trans (by kernel_rfl) h)
theorem garmentref13_Holds_st {r : R} (a0 : (List (Int × Int))) (a1 : (Int × Int)) (h : ((callT CG [.v .bool] 30 [.val (.sl t0) a0]).bind fun (r1 : Bool) => (if (!r1) = true then (some [.val tI ((-1) : Int)]) else ((callT CG [.v .bool] 31 [.val t0 a1]).bind fun (r2 : Bool) => (if r2 = true then (some [.val tI ((-1) : Int)]) else ((callT CG [.v tI] 32 [.val (.sl t0) a0, .val t0 a1]).bind fun (r3 : Int) => (some [.val tI r3])))))) = some r) : CG 3 [.val (.sl t0) a0, .val t0 a1] = some r := limC_run (f := cf_garmentref13_Holds) (by kernel_rfl) (by kernel_rfl) (Eq.trans (by kernel_rfl) h)
theorem garmentref13_Proper_st {r : R} (a0 : (List (Int × Int))) (h : (if (((List.length a0 : Nat) : Int) != (3 : Int)) = true then (some [.val .bool false]) else (if (0 ≤ (0 : Int) ∧ (0 : Int) < ((List.length a0 : Nat) : Int)) then ((callT CG [.v .bool] 31 [.val t0 (List.getD a0 (Int.toNat (0 : Int)) ((0 : Int), (0 : Int)))]).bind fun (r1 : Bool) => (if r1 = true then (some [.val .bool false]) else (if (0 ≤ (1 : Int) ∧ (1 : Int) < ((List.length a0 : Nat) : Int)) then ((callT CG [.v .bool] 31 [.val t0 (List.getD a0 (Int.toNat (1 : Int)) ((0 : Int), (0 : Int)))]).bind fun (r2 : Bool) => (if r2 = true then (some [.val .bool false]) else (if (0 ≤ (2 : Int) ∧ (2 : Int) < ((List.length a0 : Nat) : Int)) then ((callT CG [.v .bool] 31 [.val t0 (List.getD a0 (Int.toNat (2 : Int)) ((0 : Int), (0 : Int)))]).bind fun (r3 : Bool) => (if r3 = true then (some [.val .bool false]) else (if (0 ≤ (0 : Int) ∧ (0 : Int) < ((List.length a0 : Nat) : Int)) then (if (0 ≤ (1 : Int) ∧ (1 : Int) < ((List.length a0 : Nat) : Int)) then (if (0 ≤ (2 : Int) ∧ (2 : Int) < ((List.length a0 : Nat) : Int)) then ((callT CG [.v tI] 33 [.val t0 (List.getD a0 (Int.toNat (0 : Int)) ((0 : Int), (0 : Int))), .val t0 (List.getD a0 (Int.toNat (1 : Int)) ((0 : Int), (0 : Int))), .val t0 (List.getD a0 (Int.toNat (2 : Int)) ((0 : Int), (0 : Int)))]).bind fun (r4 : Int) => (some [.val .bool (r4 != (0 : Int))])) else none) else none) else none))) else none))) else none))) else none)) = some r) : CG 30 [.val (.sl t0) a0] = some r := limC_run (f := cf_garmentref13_Proper) (by kernel_rfl) (by kernel_rfl) (Eq.trans (by kernel_rfl) h)
theorem garmentref13_Far_st {r : R} (a0 : (Int × Int)) (h : (if (decide (a0.1 > (1048576 : Int))) = true then (some [.val .bool true]) else (if (decide (a0.1 < ((-1048576) : Int))) = true then (some [.val .bool true]) else (if (decide (a0.2 > (1048576 : Int))) = true then (some [.val .bool true]) else (some [.val .bool (decide (a0.2 < ((-1048576) : Int)))])))) = some r) : CG 31 [.val t0 a0] = some r := limC_run (f := cf_garmentref13_Far) (by kernel_rfl) (by kernel_rfl) (Eq.trans (by kernel_rfl) h)
noncomputable def garmentref13_place_lp1 (C : CallF) (a0 : (List (Int × Int))) (a1 : (Int × Int)) (v0 : (List (Int × Int))) (v1 : Int) (v2 : Int) (v3 : Int) (v4 : (Int × Int)) : Option R := lpAt C cf_garmentref13_place [.val (.sl t0) a0, .val t0 a1] [1, 1, 1, 0, 1, 0] [.d (.val (.sl t0) v0), .d (.undef), .d (.undef), .d (.ptr 100000 0 []), .d (.undef), .d (.val tI v1), .d (.val tI v2), .d (.val tI v3), .d (.undef), .d (.undef), .d (.undef), .d (.undef), .d (.undef), .d (.undef), .d (.undef), .d (.undef), .d (.undef), .d (.undef), .d (.undef), .d (.undef), .d (.undef), .d (.undef), .d (.undef), .d (.undef), .d (.undef), .d (.undef), .d (.undef), .d (.undef), .d (.undef), .d (.undef), .d (.undef), .d (.undef), .d (.undef), .d (.undef), .d (.undef), .d (.undef), .d (.undef), .d (.undef), .d (.undef), .d (.undef), .d (.undef)] (ofL [(100000, .box t0 (.val t0 v4))])
theorem garmentref13_place_st {r : R} (a0 : (List (Int × Int))) (a1 : (Int × Int)) (h : (if (0 ≤ (0 : Int) ∧ (0 : Int) < ((List.length a0 : Nat) : Int)) then (if (0 ≤ (1 : Int) ∧ (1 : Int) < ((List.length a0 : Nat) : Int)) then (if (0 ≤ (2 : Int) ∧ (2 : Int) < ((List.length a0 : Nat) : Int)) then ((callT CG [.v tI] 33 [.val t0 (List.getD a0 (Int.toNat (0 : Int)) ((0 : Int), (0 : Int))), .val t0 (List.getD a0 (Int.toNat (1 : Int)) ((0 : Int), (0 : Int))), .val t0 (List.getD a0 (Int.toNat (2 : Int)) ((0 : Int), (0 : Int)))]).bind fun (r1 : Int) => ((callT CG [.v tI] 34 [.val tI r1]).bind fun (r2 : Int) => (garmentref13_place_lp1 CG a0 a1 a0 r2 (1 : Int) (0 : Int) a1))) else none) else none) else none) = some r) : CG 32 [.val (.sl t0) a0, .val t0 a1] = some r := limC_run (f := cf_garmentref13_place) (by kernel_rfl) (by kernel_rfl) (Eq.trans (by kernel_rfl) h)
theorem garmentref13_place_lp1_st {C : CallF} {r : R} (a0 : (List (Int × Int))) (a1 : (Int × Int)) (v0 : (List (Int × Int))) (v1 : Int) (v2 : Int) (v3 : Int) (v4 : (Int × Int)) (h : (if (decide (v3 < (3 : Int))) = true then (if (0 ≤ v3 ∧ v3 < ((List.length v0 : Nat) : Int)) then (if ((3 : Int) ≠ 0) then (if (0 ≤ (Int.tmod (wr .i64 (v3 + (1 : Int))) (3 : Int)) ∧ (Int.tmod (wr .i64 (v3 + (1 : Int))) (3 : Int)) < ((List.length v0 : Nat) : Int)) then ((callT C [.v tI] 33 [.val t0 (List.getD v0 (Int.toNat v3) ((0 : Int), (0 : Int))), .val t0 (List.getD v0 (Int.toNat (Int.tmod (wr .i64 (v3 + (1 : Int))) (3 : Int))) ((0 : Int), (0 : Int))), .val t0 v4]).bind fun (r1 : Int) => ((callT C [.v tI] 34 [.val tI r1]).bind fun (r2 : Int) => (garmentref13_place_lp1 C a0 a1 v0 v1 (if (wr .i64 (v1 * r2)) < v2 then (wr .i64 (v1 * r2)) else v2) (wr .i64 (v3 + (1 : Int))) v4))) else none) else none) else none) else (some [.val tI v2])) = some r) : garmentref13_place_lp1 C a0 a1 v0 v1 v2 v3 v4 = some r := lpAt_of (Eq.trans (by kernel_rfl) h)
theorem garmentref13_sign_st {r : R} (a0 : Int) (h : (if (decide (a0 > (0 : Int))) = true then (some [.val tI (1 : Int)]) else (if (decide (a0 < (0 : Int))) = true then (some [.val tI ((-1) : Int)]) else (some [.val tI (0 : Int)]))) = some r) : CG 34 [.val tI a0] = some r := limC_run (f := cf_garmentref13_sign) (by kernel_rfl) (by kernel_rfl) (Eq.trans (by kernel_rfl) h)
noncomputable def polygon_Check_lp1 (C : CallF) (a0 : (List (Int × Int))) (v0 : (List (Int × Int))) (v1 : (List (Int × Int))) (v2 : Int) (v3 : Int) : Option R := lpAt C cf_polygon_Check [.val (.sl t0) a0] [1, 1, 1, 0, 1, 0] [.d (.val (.sl t0) v0), .d (.undef), .d (.undef), .d (.undef), .d (.undef), .d (.undef), .d (.undef), .d (.undef), .d (.undef), .d (.undef), .d (.undef), .d (.val (.sl t0) v1), .d (.val tI v2), .d (.val tI v3), .d (.undef), .d (.undef), .d (.undef), .d (.undef), .d (.undef), .d (.undef), .d (.undef), .d (.undef), .d (.undef), .d (.undef), .d (.undef), .d (.undef), .d (.undef), .d (.undef), .d (.undef), .d (.undef), .d (.undef)] (ofL [])
theorem polygon_Check_st {r : R} (a0 : (List (Int × Int))) (h : (if (decide (((List.length a0 : Nat) : Int) > (40 : Int))) = true then (some [.val tI (5 : Int)]) else (if (decide (((List.length a0 : Nat) : Int) < (3 : Int))) = true then (some [.val tI (11 : Int)]) else (polygon_Check_lp1 CG a0 a0 a0 ((List.length a0 : Nat) : Int) (0 : Int)))) = some r) : CG 13 [.val (.sl t0) a0] = some r := limC_run (f := cf_polygon_Check) (by kernel_rfl) (by kernel_rfl) (Eq.trans (by kernel_rfl) h)
theorem polygon_Check_lp1_st {C : CallF} {r : R} (a0 : (List (Int × Int))) (v0 : (List (Int × Int))) (v1 : (List (Int × Int))) (v2 : Int) (v3 : Int) (h : (if (decide (v3 < v2)) = true then (if (0 ≤ v3 ∧ v3 < ((List.length v1 : Nat) : Int)) then ((callT C [.v .bool] 20 [.val tI (List.getD v1 (Int.toNat v3) ((0 : Int), (0 : Int))).1]).bind fun (r1 : Bool) => (if (!r1) = true then (some [.val tI (3 : Int)]) else ((callT C [.v .bool] 20 [.val tI (List.getD v1 (Int.toNat v3) ((0 : Int), (0 : Int))).2]).bind fun (r2 : Bool) => (if (!r2) = true then (some [.val tI (3 : Int)]) else (polygon_Check_lp1 C a0 v0 v1 v2 (wr .i64 (v3 + (1 : Int)))))))) else none) else ((callT C [.v .bool] 21 [.val (.sl t0) v0]).bind fun (r3 : Bool) => (if (!r3) = true then (some [.val tI (11 : Int)]) else (some [.val tI (0 : Int)])))) = some r) : polygon_Check_lp1 C a0 v0 v1 v2 v3 = some r := lpAt_of (Eq.trans (by kernel_rfl) h)
theorem polygon_inside_st {r : R} (a0 : Int) (h : (if (decide (a0 ≥ ((-1048576) : Int))) = true then (some [.val .bool (decide (a0 ≤ (1048576 : Int)))]) else (some [.val .bool false])) = some r) : CG 20 [.val tI a0] = some r := limC_run (f := cf_polygon_inside) (by kernel_rfl) (by kernel_rfl) (Eq.trans (by kernel_rfl) h)
noncomputable def polygon_simple_lp1 (C : CallF) (a0 : (List (Int × Int))) (v0 : Int) (v1 : Int) (v2 : (List ((Int × Int) × (Int × Int)))) : Option R := lpAt C cf_polygon_simple [.val (.sl t0) a0] [1, 1, 0, 1, 0] [.d (.undef), .d (.undef), .d (.undef), .d (.ref 100000), .d (.undef), .d (.undef), .d (.undef), .d (.undef), .d (.undef), .d (.undef), .d (.ref 100000), .d (.val tI v0), .d (.val tI v1), .d (.undef), .d (.undef), .d (.undef), .d (.undef), .d (.undef), .d (.undef), .d (.undef), .d (.undef), .d (.undef), .d (.undef), .d (.undef), .d (.undef), .d (.undef), .d (.undef), .d (.undef), .d (.undef), .d (.undef), .d (.undef), .d (.undef), .d (.undef), .d (.undef), .d (.undef), .d (.undef), .d (.undef), .d (.undef), .d (.undef), .d (.undef), .d (.undef), .d (.undef), .d (.undef), .d (.undef), .d (.undef), .d (.undef), .d (.undef), .d (.undef), .d (.undef), .d (.undef), .d (.undef), .d (.undef), .d (.undef), .d (.undef), .d (.undef), .d (.undef), .d (.undef), .d (.undef), .d (.undef), .d (.undef), .d (.undef), .d (.undef), .d (.undef), .d (.undef)] (ofL [(100000, .arr t1 v2 .lv)])
noncomputable def polygon_simple_lp2 (C : CallF) (a0 : (List (Int × Int))) (v0 : Int) (v1 : Int) (v2 : Int) (v3 : Int) (v4 : (List ((Int × Int) × (Int × Int)))) (v5 : ((Int × Int) × (Int × Int))) : Option R := lpAt C cf_polygon_simple [.val (.sl t0) a0] [1, 1, 0, 1, 0, 0, 1, 1, 0, 0, 1, 1, 1, 1, 1, 0] [.d (.undef), .d (.undef), .d (.undef), .d (.ref 200000), .d (.val tI v0), .d (.ptr 200001 0 []), .d (.undef), .d (.val tI v1), .d (.undef), .d (.undef), .d (.ref 200000), .d (.val tI v2), .d (.val tI v3), .d (.undef), .d (.undef), .d (.undef), .d (.undef), .d (.undef), .d (.undef), .d (.undef), .d (.undef), .d (.undef), .d (.undef), .d (.undef), .d (.undef), .d (.undef), .d (.undef), .d (.undef), .d (.undef), .d (.undef), .d (.undef), .d (.undef), .d (.undef), .d (.undef), .d (.undef), .d (.undef), .d (.undef), .d (.undef), .d (.undef), .d (.undef), .d (.undef), .d (.undef), .d (.undef), .d (.undef), .d (.undef), .d (.undef), .d (.undef), .d (.undef), .d (.undef), .d (.undef), .d (.undef), .d (.undef), .d (.undef), .d (.undef), .d (.undef), .d (.undef), .d (.undef), .d (.undef), .d (.undef), .d (.undef), .d (.undef), .d (.undef), .d (.undef), .d (.undef)] (ofL [(200000, .arr t1 v4 .lv), (200001, .box t1 (.val t1 v5))])
theorem polygon_simple_st {r : R} (a0 : (List (Int × Int))) (h : ((callT CG [.o t1] 22 [.val (.sl t0) a0]).bind fun (r1 : (List ((Int × Int) × (Int × Int)))) => (polygon_simple_lp1 CG a0 ((List.length r1 : Nat) : Int) (0 : Int) r1)) = some r) : CG 21 [.val (.sl t0) a0] = some r := limC_run (f := cf_polygon_simple) (by kernel_rfl) (by kernel_rfl) (Eq.trans (by kernel_rfl) h)
theorem polygon_simple_lp1_st {C : CallF} {r : R} (a0 : (List (Int × Int))) (v0 : Int) (v1 : Int) (v2 : (List ((Int × Int) × (Int × Int)))) (h : (if (decide (v1 < v0)) = true then (if (0 ≤ v1 ∧ v1 < ((List.length v2 : Nat) : Int)) then (if (((List.getD v2 (Int.toNat v1) (((0 : Int), (0 : Int)), ((0 : Int), (0 : Int)))).1.1 == (List.getD v2 (Int.toNat v1) (((0 : Int), (0 : Int)), ((0 : Int), (0 : Int)))).2.1) && ((List.getD v2 (Int.toNat v1) (((0 : Int), (0 : Int)), ((0 : Int), (0 : Int)))).1.2 == (List.getD v2 (Int.toNat v1) (((0 : Int), (0 : Int)), ((0 : Int), (0 : Int)))).2.2)) = true then (some [.val .bool false]) else (if (((List.length v2 : Nat) : Int) ≠ 0) then (if (0 ≤ (Int.tmod (wr .i64 (v1 + (1 : Int))) ((List.length v2 : Nat) : Int)) ∧ (Int.tmod (wr .i64 (v1 + (1 : Int))) ((List.length v2 : Nat) : Int)) < ((List.length v2 : Nat) : Int)) then ((callT C [.v .bool] 23 [.val t1 (List.getD v2 (Int.toNat v1) (((0 : Int), (0 : Int)), ((0 : Int), (0 : Int)))), .val t0 (List.getD v2 (Int.toNat (Int.tmod (wr .i64 (v1 + (1 : Int))) ((List.length v2 : Nat) : Int))) (((0 : Int), (0 : Int)), ((0 : Int), (0 : Int)))).2]).bind fun (r1 : Bool) => (if r1 = true then (some [.val .bool false]) else ((callT C [.v .bool] 23 [.val t1 (List.getD v2 (Int.toNat (Int.tmod (wr .i64 (v1 + (1 : Int))) ((List.length v2 : Nat) : Int))) (((0 : Int), (0 : Int)), ((0 : Int), (0 : Int)))), .val t0 (List.getD v2 (Int.toNat v1) (((0 : Int), (0 : Int)), ((0 : Int), (0 : Int)))).1]).bind fun (r2 : Bool) => (if r2 = true then (some [.val .bool false]) else (polygon_simple_lp2 C a0 v1 (wr .i64 (v1 + (2 : Int))) v0 v1 v2 (List.getD v2 (Int.toNat v1) (((0 : Int), (0 : Int)), ((0 : Int), (0 : Int))))))))) else none) else none)) else none) else (some [.val .bool true])) = some r) : polygon_simple_lp1 C a0 v0 v1 v2 = some r := lpAt_of (Eq.trans (by kernel_rfl) h)
theorem polygon_simple_lp2_st {C : CallF} {r : R} (a0 : (List (Int × Int))) (v0 : Int) (v1 : Int) (v2 : Int) (v3 : Int) (v4 : (List ((Int × Int) × (Int × Int)))) (v5 : ((Int × Int) × (Int × Int))) (h : (if (decide (v1 < ((List.length v4 : Nat) : Int))) = true then (if (v0 == (0 : Int)) = true then (if (v1 == (wr .i64 (((List.length v4 : Nat) : Int) - (1 : Int)))) = true then (polygon_simple_lp2 C a0 v0 (wr .i64 (v1 + (1 : Int))) v2 v3 v4 v5) else (if (0 ≤ v1 ∧ v1 < ((List.length v4 : Nat) : Int)) then ((callT C [.v .bool] 24 [.val t1 v5, .val t1 (List.getD v4 (Int.toNat v1) (((0 : Int), (0 : Int)), ((0 : Int), (0 : Int))))]).bind fun (r1 : Bool) => (if r1 = true then (some [.val .bool false]) else (polygon_simple_lp2 C a0 v0 (wr .i64 (v1 + (1 : Int))) v2 v3 v4 v5))) else none)) else (if (0 ≤ v1 ∧ v1 < ((List.length v4 : Nat) : Int)) then ((callT C [.v .bool] 24 [.val t1 v5, .val t1 (List.getD v4 (Int.toNat v1) (((0 : Int), (0 : Int)), ((0 : Int), (0 : Int))))]).bind fun (r2 : Bool) => (if r2 = true then (some [.val .bool false]) else (polygon_simple_lp2 C a0 v0 (wr .i64 (v1 + (1 : Int))) v2 v3 v4 v5))) else none)) else (polygon_simple_lp1 C a0 v2 (wr .i64 (v3 + (1 : Int))) v4)) = some r) : polygon_simple_lp2 C a0 v0 v1 v2 v3 v4 v5 = some r := lpAt_of (Eq.trans (by kernel_rfl) h)
theorem polygon_turn_st {r : R} (a0 : (Int × Int)) (a1 : (Int × Int)) (a2 : (Int × Int)) (h : (some [.val tI (wr .i64 ((wr .i64 ((wr .i64 (a1.1 - a0.1)) * (wr .i64 (a2.2 - a1.2)))) - (wr .i64 ((wr .i64 (a1.2 - a0.2)) * (wr .i64 (a2.1 - a1.1))))))]) = some r) : CG 14 [.val t0 a0, .val t0 a1, .val t0 a2] = some r := limC_run (f := cf_polygon_turn) (by kernel_rfl) (by kernel_rfl) (Eq.trans (by kernel_rfl) h)
noncomputable def polygon_sides_lp1 (C : CallF) (a0 : (List (Int × Int))) (v0 : (List (Int × Int))) (v1 : (List (Int × Int))) (v2 : Int) (v3 : Int) (v4 : (List ((Int × Int) × (Int × Int)))) : Option R := lpAt C cf_polygon_sides [.val (.sl t0) a0] [1, 1, 0, 1, 0] [.d (.val (.sl t0) v0), .d (.undef), .d (.undef), .d (.ref 100000), .d (.undef), .d (.undef), .d (.undef), .d (.undef), .d (.undef), .d (.val (.sl t0) v1), .d (.val tI v2), .d (.val tI v3), .d (.undef), .d (.undef), .d (.undef), .d (.undef), .d (.undef), .d (.undef), .d (.undef), .d (.undef), .d (.undef), .d (.undef), .d (.undef), .d (.undef), .d (.undef), .d (.undef), .d (.undef), .d (.undef), .d (.undef), .d (.undef), .d (.undef)] (ofL [(100000, .arr t1 v4 .lv)])
theorem polygon_sides_st {r : R} (a0 : (List (Int × Int))) (h : (if (0 ≤ ((List.length a0 : Nat) : Int) ∧ ((List.length a0 : Nat) : Int) ≤ ((List.length a0 : Nat) : Int) ∧ ((List.length a0 : Nat) : Int) ≤ ((8796093022208 : Nat) : Int)) then (polygon_sides_lp1 CG a0 a0 a0 ((List.length a0 : Nat) : Int) (0 : Int) (List.replicate (Int.toNat ((List.length a0 : Nat) : Int)) (((0 : Int), (0 : Int)), ((0 : Int), (0 : Int))))) else none) = some r) : CG 22 [.val (.sl t0) a0] = some r := limC_run (f := cf_polygon_sides) (by kernel_rfl) (by kernel_rfl) (Eq.trans (by kernel_rfl) h)
theorem polygon_sides_lp1_st {C : CallF} {r : R} (a0 : (List (Int × Int))) (v0 : (List (Int × Int))) (v1 : (List (Int × Int))) (v2 : Int) (v3 : Int) (v4 : (List ((Int × Int) × (Int × Int)))) (h : (if (decide (v3 < v2)) = true then (if (0 ≤ v3 ∧ v3 < ((List.length v1 : Nat) : Int)) then (if (((List.length v0 : Nat) : Int) ≠ 0) then (if (0 ≤ (Int.tmod (wr .i64 (v3 + (1 : Int))) ((List.length v0 : Nat) : Int)) ∧ (Int.tmod (wr .i64 (v3 + (1 : Int))) ((List.length v0 : Nat) : Int)) < ((List.length v0 : Nat) : Int)) then (if (0 ≤ v3 ∧ v3 < ((List.length v4 : Nat) : Int)) then (polygon_sides_lp1 C a0 v0 v1 v2 (wr .i64 (v3 + (1 : Int))) (List.set v4 (Int.toNat v3) ((List.getD v1 (Int.toNat v3) ((0 : Int), (0 : Int))), (List.getD v0 (Int.toNat (Int.tmod (wr .i64 (v3 + (1 : Int))) ((List.length v0 : Nat) : Int))) ((0 : Int), (0 : Int)))))) else none) else none) else none) else none) else (some [.own t1 v4])) = some r) : polygon_sides_lp1 C a0 v0 v1 v2 v3 v4 = some r := lpAt_of (Eq.trans (by kernel_rfl) h)
theorem polygon_side_holds_st {r : R} (a0 : ((Int × Int) × (Int × Int))) (a1 : (Int × Int)) (h : ((callT CG [.v tI] 14 [.val t0 a0.1, .val t0 a0.2, .val t0 a1]).bind fun (r1 : Int) => (if (r1 == (0 : Int)) = true then ((callT CG [.v .bool] 25 [.val tI a1.1, .val tI a0.1.1, .val tI a0.2.1]).bind fun (r2 : Bool) => (if r2 = true then ((callT CG [.v .bool] 25 [.val tI a1.2, .val tI a0.1.2, .val tI a0.2.2]).bind fun (r3 : Bool) => (some [.val .bool r3])) else (some [.val .bool false]))) else (some [.val .bool false]))) = some r) : CG 23 [.val t1 a0, .val t0 a1] = some r := limC_run (f := cf_polygon_side_holds) (by kernel_rfl) (by kernel_rfl) (Eq.trans (by kernel_rfl) h)
theorem polygon_side_meets_st {r : R} (a0 : ((Int × Int) × (Int × Int))) (a1 : ((Int × Int) × (Int × Int))) (h : ((callT CG [.v .bool] 23 [.val t1 a0, .val t0 a1.1]).bind fun (r1 : Bool) => (if r1 = true then (some [.val .bool true]) else ((callT CG [.v .bool] 23 [.val t1 a0, .val t0 a1.2]).bind fun (r2 : Bool) => (if r2 = true then (some [.val .bool true]) else ((callT CG [.v .bool] 23 [.val t1 a1, .val t0 a0.1]).bind fun (r3 : Bool) => (if r3 = true then (some [.val .bool true]) else ((callT CG [.v .bool] 23 [.val t1 a1, .val t0 a0.2]).bind fun (r4 : Bool) => (if r4 = true then (some [.val .bool true]) else ((callT CG [.v .bool] 26 [.val t1 a0, .val t0 a1.1, .val t0 a1.2]).bind fun (r5 : Bool) => (if r5 = true then ((callT CG [.v .bool] 26 [.val t1 a1, .val t0 a0.1, .val t0 a0.2]).bind fun (r6 : Bool) => (some [.val .bool r6])) else (some [.val .bool false]))))))))))) = some r) : CG 24 [.val t1 a0, .val t1 a1] = some r := limC_run (f := cf_polygon_side_meets) (by kernel_rfl) (by kernel_rfl) (Eq.trans (by kernel_rfl) h)
theorem polygon_within_st {r : R} (a0 : Int) (a1 : Int) (a2 : Int) (h : (if (decide ((if a2 < a1 then a2 else a1) ≤ a0)) = true then (some [.val .bool (decide (a0 ≤ (if a2 > a1 then a2 else a1)))]) else (some [.val .bool false])) = some r) : CG 25 [.val tI a0, .val tI a1, .val tI a2] = some r := limC_run (f := cf_polygon_within) (by kernel_rfl) (by kernel_rfl) (Eq.trans (by kernel_rfl) h)
theorem polygon_side_divides_st {r : R} (a0 : ((Int × Int) × (Int × Int))) (a1 : (Int × Int)) (a2 : (Int × Int)) (h : ((callT CG [.v tI] 14 [.val t0 a0.1, .val t0 a0.2, .val t0 a1]).bind fun (r1 : Int) => ((callT CG [.v tI] 14 [.val t0 a0.1, .val t0 a0.2, .val t0 a2]).bind fun (r2 : Int) => (if (decide (r1 < (0 : Int))) = true then (if (decide (r2 > (0 : Int))) = true then (some [.val .bool true]) else (if (decide (r1 > (0 : Int))) = true then (some [.val .bool (decide (r2 < (0 : Int)))]) else (some [.val .bool false]))) else (if (decide (r1 > (0 : Int))) = true then (some [.val .bool (decide (r2 < (0 : Int)))]) else (some [.val .bool false]))))) = some r) : CG 26 [.val t1 a0, .val t0 a1, .val t0 a2] = some r := limC_run (f := cf_polygon_side_divides) (by kernel_rfl) (by kernel_rfl) (Eq.trans (by kernel_rfl) h)
theorem triangle_Holds_st {r : R} (a0 : (List (Int × Int))) (a1 : (Int × Int)) (h : (if (((List.length a0 : Nat) : Int) != (3 : Int)) = true then (some [.val tI ((-1) : Int)]) else (if (0 ≤ (0 : Int) ∧ (0 : Int) < ((List.length a0 : Nat) : Int)) then ((callT CG [.v .bool] 29 [.val t0 (List.getD a0 (Int.toNat (0 : Int)) ((0 : Int), (0 : Int)))]).bind fun (r1 : Bool) => (if (!r1) = true then (some [.val tI ((-1) : Int)]) else (if (0 ≤ (1 : Int) ∧ (1 : Int) < ((List.length a0 : Nat) : Int)) then ((callT CG [.v .bool] 29 [.val t0 (List.getD a0 (Int.toNat (1 : Int)) ((0 : Int), (0 : Int)))]).bind fun (r2 : Bool) => (if (!r2) = true then (some [.val tI ((-1) : Int)]) else (if (0 ≤ (2 : Int) ∧ (2 : Int) < ((List.length a0 : Nat) : Int)) then ((callT CG [.v .bool] 29 [.val t0 (List.getD a0 (Int.toNat (2 : Int)) ((0 : Int), (0 : Int)))]).bind fun (r3 : Bool) => (if (!r3) = true then (some [.val tI ((-1) : Int)]) else ((callT CG [.v .bool] 29 [.val t0 a1]).bind fun (r4 : Bool) => (if (!r4) = true then (some [.val tI ((-1) : Int)]) else (if (0 ≤ (0 : Int) ∧ (0 : Int) < ((List.length a0 : Nat) : Int)) then (if (0 ≤ (1 : Int) ∧ (1 : Int) < ((List.length a0 : Nat) : Int)) then (if (0 ≤ (2 : Int) ∧ (2 : Int) < ((List.length a0 : Nat) : Int)) then ((callT CG [.v tI] 27 [.val t0 (List.getD a0 (Int.toNat (0 : Int)) ((0 : Int), (0 : Int))), .val t0 (List.getD a0 (Int.toNat (1 : Int)) ((0 : Int), (0 : Int))), .val t0 (List.getD a0 (Int.toNat (2 : Int)) ((0 : Int), (0 : Int)))]).bind fun (r5 : Int) => (if (r5 == (0 : Int)) = true then (some [.val tI ((-1) : Int)]) else (if (decide (r5 < (0 : Int))) = true then ((callT CG [.v .bool] 28 [.val t0 (List.getD a0 (Int.toNat (0 : Int)) ((0 : Int), (0 : Int))), .val t0 (List.getD a0 (Int.toNat (2 : Int)) ((0 : Int), (0 : Int))), .val t0 (List.getD a0 (Int.toNat (1 : Int)) ((0 : Int), (0 : Int))), .val t0 a1]).bind fun (r6 : Bool) => (if (!r6) = true then (some [.val tI ((-1) : Int)]) else ((callT CG [.v tI] 27 [.val t0 (List.getD a0 (Int.toNat (0 : Int)) ((0 : Int), (0 : Int))), .val t0 (List.getD a0 (Int.toNat (2 : Int)) ((0 : Int), (0 : Int))), .val t0 a1]).bind fun (r7 : Int) => (if (r7 == (0 : Int)) = true then (some [.val tI (0 : Int)]) else ((callT CG [.v tI] 27 [.val t0 (List.getD a0 (Int.toNat (2 : Int)) ((0 : Int), (0 : Int))), .val t0 (List.getD a0 (Int.toNat (1 : Int)) ((0 : Int), (0 : Int))), .val t0 a1]).bind fun (r8 : Int) => (if (r8 == (0 : Int)) = true then (some [.val tI (0 : Int)]) else ((callT CG [.v tI] 27 [.val t0 (List.getD a0 (Int.toNat (1 : Int)) ((0 : Int), (0 : Int))), .val t0 (List.getD a0 (Int.toNat (0 : Int)) ((0 : Int), (0 : Int))), .val t0 a1]).bind fun (r9 : Int) => (if (r9 == (0 : Int)) = true then (some [.val tI (0 : Int)]) else (some [.val tI (1 : Int)]))))))))) else ((callT CG [.v .bool] 28 [.val t0 (List.getD a0 (Int.toNat (0 : Int)) ((0 : Int), (0 : Int))), .val t0 (List.getD a0 (Int.toNat (1 : Int)) ((0 : Int), (0 : Int))), .val t0 (List.getD a0 (Int.toNat (2 : Int)) ((0 : Int), (0 : Int))), .val t0 a1]).bind fun (r10 : Bool) => (if (!r10) = true then (some [.val tI ((-1) : Int)]) else ((callT CG [.v tI] 27 [.val t0 (List.getD a0 (Int.toNat (0 : Int)) ((0 : Int), (0 : Int))), .val t0 (List.getD a0 (Int.toNat (1 : Int)) ((0 : Int), (0 : Int))), .val t0 a1]).bind fun (r11 : Int) => (if (r11 == (0 : Int)) = true then (some [.val tI (0 : Int)]) else ((callT CG [.v tI] 27 [.val t0 (List.getD a0 (Int.toNat (1 : Int)) ((0 : Int), (0 : Int))), .val t0 (List.getD a0 (Int.toNat (2 : Int)) ((0 : Int), (0 : Int))), .val t0 a1]).bind fun (r12 : Int) => (if (r12 == (0 : Int)) = true then (some [.val tI (0 : Int)]) else ((callT CG [.v tI] 27 [.val t0 (List.getD a0 (Int.toNat (2 : Int)) ((0 : Int), (0 : Int))), .val t0 (List.getD a0 (Int.toNat (0 : Int)) ((0 : Int), (0 : Int))), .val t0 a1]).bind fun (r13 : Int) => (if (r13 == (0 : Int)) = true then (some [.val tI (0 : Int)]) else (some [.val tI (1 : Int)])))))))))))) else none) else none) else none))))) else none))) else none))) else none)) = some r) : CG 2 [.val (.sl t0) a0, .val t0 a1] = some r := limC_run (f := cf_triangle_Holds) (by kernel_rfl) (by kernel_rfl) (Eq.trans (by kernel_rfl) h)
theorem triangle_near_st {r : R} (a0 : (Int × Int)) (h : (if (decide (a0.1 ≥ ((-1048576) : Int))) = true then (if (decide (a0.1 ≤ (1048576 : Int))) = true then (if (decide (a0.2 ≥ ((-1048576) : Int))) = true then (some [.val .bool (decide (a0.2 ≤ (1048576 : Int)))]) else (some [.val .bool false])) else (some [.val .bool false])) else (some [.val .bool false])) = some r) : CG 29 [.val t0 a0] = some r := limC_run (f := cf_triangle_near) (by kernel_rfl) (by kernel_rfl) (Eq.trans (by kernel_rfl) h)
theorem triangle_cross_st {r : R} (a0 : (Int × Int)) (a1 : (Int × Int)) (a2 : (Int × Int)) (h : (some [.val tI (wr .i64 ((wr .i64 ((wr .i64 (a1.1 - a0.1)) * (wr .i64 (a2.2 - a0.2)))) - (wr .i64 ((wr .i64 (a1.2 - a0.2)) * (wr .i64 (a2.1 - a0.1))))))]) = some r) : CG 27 [.val t0 a0, .val t0 a1, .val t0 a2] = some r := limC_run (f := cf_triangle_cross) (by kernel_rfl) (by kernel_rfl) (Eq.trans (by kernel_rfl) h)
theorem triangle_covers_st {r : R} (a0 : (Int × Int)) (a1 : (Int × Int)) (a2 : (Int × Int)) (a3 : (Int × Int)) (h : ((callT CG [.v tI] 27 [.val t0 a0, .val t0 a1, .val t0 a3]).bind fun (r1 : Int) => (if (decide (r1 ≥ (0 : Int))) = true then ((callT CG [.v tI] 27 [.val t0 a1, .val t0 a2, .val t0 a3]).bind fun (r2 : Int) => (if (decide (r2 ≥ (0 : Int))) = true then ((callT CG [.v tI] 27 [.val t0 a2, .val t0 a0, .val t0 a3]).bind fun (r3 : Int) => (some [.val .bool (decide (r3 ≥ (0 : Int)))])) else (some [.val .bool false]))) else (some [.val .bool false]))) = some r) : CG 28 [.val t0 a0, .val t0 a1, .val t0 a2, .val t0 a3] = some r := limC_run (f := cf_triangle_covers) (by kernel_rfl) (by kernel_rfl) (Eq.trans (by kernel_rfl) h)
end Pm
end
section
/- Polygons on the grid: what the program computes, over lists of pairs of whole numbers. -/
namespace Geo
abbrev IP := Int × Int
/-- twice the signed area of a triangle -/
def crI (a b c : IP) : Int := (b.1 - a.1) * (c.2 - a.2) - (b.2 - a.2) * (c.1 - a.1)
def BetI (a b q : IP) : Prop := crI a b q = 0 ∧ (min a.1 b.1 ≤ q.1 ∧ q.1 ≤ max a.1 b.1) ∧ (min a.2 b.2 ≤ q.2 ∧ q.2 ≤ max a.2 b.2)
def DivI (a b p q : IP) : Prop := (crI a b p < 0 ∧ 0 < crI a b q) ∨ (0 < crI a b p ∧ crI a b q < 0)
def MeetI (a b c d : IP) : Prop := BetI a b c ∨ BetI a b d ∨ BetI c d a ∨ BetI c d b ∨ (DivI a b c d ∧ DivI c d a b)
def nth (P : List IP) (i : Nat) : IP := P.getD (i % P.length) (0, 0)
/-- the program's test of a simple polygon -/
def SimpI (P : List IP) : Prop := ∀ i, i < P.length → nth P i ≠ nth P (i + 1) ∧ ¬ BetI (nth P i) (nth P (i + 1)) (nth P (i + 2)) ∧ ¬ BetI (nth P (i + 1)) (nth P (i + 2)) (nth P i) ∧
  ∀ k, i + 2 ≤ k → k < P.length → ¬ (i = 0 ∧ k = P.length - 1) → ¬ MeetI (nth P i) (nth P (i + 1)) (nth P k) (nth P (k + 1))
def insI (n : Int) : Prop := -1048576 ≤ n ∧ n ≤ 1048576
instance (n : Int) : Decidable (insI n) := inferInstanceAs (Decidable (_ ∧ _))
def InsI (P : List IP) : Prop := ∀ s ∈ P, insI s.1 ∧ insI s.2
open Classical in
noncomputable def chk (P : List IP) : Int := if 40 < P.length then 5 else if P.length < 3 then 11 else if ¬ InsI P then 3 else if SimpI P then 0 else 11
theorem prod_bound {x y M : Int} (h1 : -M ≤ x) (h2 : x ≤ M) (h3 : -M ≤ y) (h4 : y ≤ M) : -(M * M) ≤ x * y ∧ x * y ≤ M * M := by
  have hM : 0 ≤ M := by omega
  have a := Int.mul_nonneg (show 0 ≤ M - x by omega) (show 0 ≤ M + y by omega)
  have b := Int.mul_nonneg (show 0 ≤ M + x by omega) (show 0 ≤ M - y by omega)
  have c := Int.mul_nonneg (show 0 ≤ M - x by omega) (show 0 ≤ M - y by omega)
  have d := Int.mul_nonneg (show 0 ≤ M + x by omega) (show 0 ≤ M + y by omega)
  constructor <;> grind
theorem nth_in {P : List IP} (h : P ≠ []) (i : Nat) : nth P i ∈ P := by
  have hl : 0 < P.length := List.length_pos_iff.2 h
  have hm := Nat.mod_lt i hl
  have : P.getD (i % P.length) (0, 0) = P[i % P.length] := by simp [List.getD, hm]
  unfold nth
  rw [this]
  exact List.getElem_mem _
end Geo
end
section
/- Polygons on the grid: sums along the sides, the position of a point, the area; the opposite order. -/
namespace Geo
def sumN (f : Nat → Int) : Nat → Int
  | 0 => 0
  | n + 1 => sumN f n + f n
theorem sumN_congr {f g : Nat → Int} {n : Nat} (h : ∀ i, i < n → f i = g i) : sumN f n = sumN g n := by
  induction n with
  | zero => rfl
  | succ n ih => rw [sumN, sumN, ih (fun i hi => h i (by omega)), h n (by omega)]
theorem sumN_neg (f : Nat → Int) (n : Nat) : sumN (fun i => -f i) n = -sumN f n := by
  induction n with
  | zero => rfl
  | succ n ih => rw [sumN, sumN, ih]; omega
theorem sumN_add (f g : Nat → Int) (n : Nat) : sumN (fun i => f i + g i) n = sumN f n + sumN g n := by
  induction n with
  | zero => rfl
  | succ n ih => rw [sumN, sumN, sumN, ih]; omega
theorem sumN_head (f : Nat → Int) (n : Nat) : sumN f (n + 1) = f 0 + sumN (fun i => f (i + 1)) n := by
  induction n with
  | zero => simp [sumN]
  | succ n ih => rw [sumN, ih, sumN]; omega
theorem nth_per (P : List IP) (i : Nat) : nth P (i + P.length) = nth P i := by unfold nth; rw [Nat.add_mod_right]
theorem nth_modl (P : List IP) (i : Nat) : nth P (i % P.length) = nth P i := by unfold nth; rw [Nat.mod_mod]
/-- the term of a side in the sum of the area -/
def trap (a b : IP) : Int := (b.1 - a.1) * (a.2 + b.2)
def areaI (P : List IP) : Int := -sumN (fun i => trap (nth P i) (nth P (i + 1))) P.length
/-- how a side turns about a point -/
def wsd (a b q : IP) : Int := if a.2 ≤ q.2 ∧ b.2 > q.2 ∧ crI a b q > 0 then 1 else if a.2 > q.2 ∧ b.2 ≤ q.2 ∧ crI a b q < 0 then -1 else 0
def wndI (P : List IP) (q : IP) : Int := sumN (fun i => wsd (nth P i) (nth P (i + 1)) q) P.length
def OnI (P : List IP) (q : IP) : Prop := ∃ i, i < P.length ∧ BetI (nth P i) (nth P (i + 1)) q
end Geo
end
section
/- Polygons on the grid: points outside of the box, moved polygons. -/
namespace Geo
theorem sum_cyc {P : List IP} (h : IP → Int) : sumN (fun i => h (nth P (i + 1)) - h (nth P i)) P.length = 0 := by
  have key : ∀ n, sumN (fun i => h (nth P (i + 1)) - h (nth P i)) n = h (nth P n) - h (nth P 0) := by
    intro n
    induction n with
    | zero => simp [sumN]
    | succ n ih => rw [sumN, ih]; omega
  rw [key]
  have : nth P P.length = nth P 0 := by have := nth_per P 0; rw [Nat.zero_add] at this; exact this
  rw [this]; omega
/-! moved polygons -/
end Geo
end
section
/- Small words for the plain proofs. -/
namespace Pl
open Go Geo Pm
theorem pos {α : Type} {c : Prop} {inst : Decidable c} {A B : Option α} {r : α} (h : c) (hA : A = some r) : @ite _ c inst A B = some r := by rw [if_pos h]; exact hA
theorem neg {α : Type} {c : Prop} {inst : Decidable c} {A B : Option α} {r : α} (h : ¬ c) (hB : B = some r) : @ite _ c inst A B = some r := by rw [if_neg h]; exact hB
theorem bnd {α β : Type} {o : Option α} {f : α → Option β} {v : α} {r : β} (ho : o = some v) (h : f v = some r) : o.bind f = some r := by rw [ho]; exact h
theorem wr_def (x : Int) : wr .i64 x = if x % 18446744073709551616 ≥ 9223372036854775808 then x % 18446744073709551616 - 18446744073709551616 else x % 18446744073709551616 := by
  show IntKind.wrap .i64 x = _
  unfold IntKind.wrap
  simp [IntKind.bits, IntKind.signed]
theorem wr64 {x : Int} (h : -9223372036854775808 ≤ x) (h2 : x ≤ 9223372036854775807) : wr .i64 x = x := by rw [wr_def]; omega
theorem wrS {i : Nat} (h : i < 4611686018427387904) : wr .i64 ((i : Int) + 1) = ((i + 1 : Nat) : Int) := by rw [wr64 (by omega) (by omega)]; rfl
theorem wrS2 {i : Nat} (h : i < 4611686018427387904) : wr .i64 ((i : Int) + 2) = ((i + 2 : Nat) : Int) := by rw [wr64 (by omega) (by omega)]; rfl
theorem dt {p : Prop} [Decidable p] (h : p) : decide p = true := decide_eq_true h
theorem df {p : Prop} [Decidable p] (h : ¬ p) : ¬ decide p = true := by simpa using h
theorem ixn {n i : Nat} (h : i < n) : (0 : Int) ≤ (i : Int) ∧ (i : Int) < (n : Int) := by omega
theorem ilt {n i : Nat} (h : i < n) : decide ((i : Int) < (n : Int)) = true := decide_eq_true (by omega)
theorem ige {n i : Nat} (h : n ≤ i) : ¬ decide ((i : Int) < (n : Int)) = true := by simp only [decide_eq_true_eq]; omega
theorem tmod_nat (m n : Nat) : Int.tmod (m : Int) (n : Int) = ((m % n : Nat) : Int) := rfl
theorem nth_getD {P : List IP} {i : Nat} (h : i < P.length) : P.getD i (0, 0) = nth P i := by unfold nth; rw [Nat.mod_eq_of_lt h]
theorem getD_eq {α : Type} {l : List α} {i : Nat} (h : i < l.length) (z : α) : l.getD i z = l[i] := by simp [List.getD, h]
theorem set_fill {α : Type} (f : Nat → α) (z : α) (n i : Nat) : ((List.range n).map (fun j => if j < i then f j else z)).set i (f i) = (List.range n).map (fun j => if j < i + 1 then f j else z) := by
  apply List.ext_getElem
  · simp
  · intro j h1 h2
    simp only [List.length_set, List.length_map, List.length_range] at h1 h2
    rw [List.getElem_set]
    simp only [List.getElem_map, List.getElem_range]
    by_cases h : i = j
    · subst h; simp
    · simp only [h, if_false]; by_cases h3 : j < i
      · rw [if_pos h3, if_pos (by omega)]
      · rw [if_neg h3, if_neg (by omega)]
theorem fill_start {α : Type} (f : Nat → α) (z : α) (n : Nat) : (List.range n).map (fun j => if j < 0 then f j else z) = List.replicate n z := by
  apply List.ext_getElem <;> simp
theorem fill_end {α : Type} (f : Nat → α) (z : α) (n : Nat) : (List.range n).map (fun j => if j < n then f j else z) = (List.range n).map f := by
  apply List.map_congr_left; intro j hj; rw [if_pos (List.mem_range.1 hj)]
theorem range_getD {α : Type} (f : Nat → α) {n i : Nat} (h : i < n) (z : α) : ((List.range n).map f).getD i z = f i := by simp [List.getD, h]
theorem nn0 {x : Int} (h : x ≠ 0) : (x != 0) = true := by simp [h]
/-- a spot within the bounds -/
def insP (s : IP) : Prop := insI s.1 ∧ insI s.2
end Pl
end
section
/- What the program's polygon functions compute: the test of a polygon. -/
namespace Pl
open Go Geo Pm
theorem insP_of {P : List IP} (h : InsI P) (hP : P ≠ []) (i : Nat) : insP (nth P i) := h _ (nth_in hP i)
theorem cr_bound {a b c : IP} (ha : insP a) (hb : insP b) (hc : insP c) : -8796093022208 ≤ crI a b c ∧ crI a b c ≤ 8796093022208 := by
  obtain ⟨a1, a2⟩ := ha; obtain ⟨b1, b2⟩ := hb; obtain ⟨c1, c2⟩ := hc
  unfold insI at *
  have h1 := prod_bound (x := b.1 - a.1) (y := c.2 - a.2) (M := 2097152) (by omega) (by omega) (by omega) (by omega)
  have h2 := prod_bound (x := b.2 - a.2) (y := c.1 - a.1) (M := 2097152) (by omega) (by omega) (by omega) (by omega)
  unfold crI
  omega
theorem turn_w {a b c : IP} (ha : insP a) (hb : insP b) (hc : insP c) : wr .i64 (wr .i64 (wr .i64 (b.1 - a.1) * wr .i64 (c.2 - b.2)) - wr .i64 (wr .i64 (b.2 - a.2) * wr .i64 (c.1 - b.1))) = crI a b c := by
  have e : (b.1 - a.1) * (c.2 - b.2) - (b.2 - a.2) * (c.1 - b.1) = crI a b c := by unfold crI; grind
  have hc' := cr_bound ha hb hc
  obtain ⟨a1, a2⟩ := ha; obtain ⟨b1, b2⟩ := hb; obtain ⟨c1, c2⟩ := hc
  unfold insI at *
  have h1 := prod_bound (x := b.1 - a.1) (y := c.2 - b.2) (M := 2097152) (by omega) (by omega) (by omega) (by omega)
  have h2 := prod_bound (x := b.2 - a.2) (y := c.1 - b.1) (M := 2097152) (by omega) (by omega) (by omega) (by omega)
  rw [wr64 (x := b.1 - a.1) (by omega) (by omega), wr64 (x := c.2 - b.2) (by omega) (by omega), wr64 (x := b.2 - a.2) (by omega) (by omega), wr64 (x := c.1 - b.1) (by omega) (by omega), wr64 (x := (b.1 - a.1) * (c.2 - b.2)) (by omega) (by omega), wr64 (x := (b.2 - a.2) * (c.1 - b.1)) (by omega) (by omega), e, wr64 (by omega) (by omega)]
theorem turn_ok {a b c : IP} (ha : insP a) (hb : insP b) (hc : insP c) : callT CG [.v tI] 14 [.val t0 a, .val t0 b, .val t0 c] = some (crI a b c) :=
  callT_of (polygon_turn_st a b c (by rw [turn_w ha hb hc])) rfl
theorem min_if (a b : Int) : (if b < a then b else a) = min a b := by omega
theorem max_if (a b : Int) : (if b > a then b else a) = max a b := by omega
theorem within_ok (n a b : Int) : callT CG [.v .bool] 25 [.val tI n, .val tI a, .val tI b] = some (decide (min a b ≤ n ∧ n ≤ max a b)) := by
  refine callT_of (polygon_within_st n a b (r := [.val .bool (decide (min a b ≤ n ∧ n ≤ max a b))]) ?_) rfl
  rw [min_if, max_if]
  by_cases h : min a b ≤ n
  · refine pos (dt h) ?_; simp [h]
  · refine neg (df h) ?_; simp [h]
open Classical in
theorem holds_ok {a b q : IP} (ha : insP a) (hb : insP b) (hq : insP q) : callT CG [.v .bool] 23 [.val t1 (a, b), .val t0 q] = some (decide (BetI a b q)) := by
  refine callT_of (polygon_side_holds_st (a, b) q (r := [.val .bool (decide (BetI a b q))]) ?_) rfl
  refine bnd (turn_ok ha hb hq) ?_
  by_cases h : crI a b q = 0
  · refine pos (by simp [h]) ?_
    refine bnd (within_ok _ _ _) ?_
    by_cases h1 : min a.1 b.1 ≤ q.1 ∧ q.1 ≤ max a.1 b.1
    · refine pos (dt h1) ?_
      refine bnd (within_ok _ _ _) ?_
      by_cases h2 : min a.2 b.2 ≤ q.2 ∧ q.2 ≤ max a.2 b.2
      · have h3 : BetI a b q := ⟨h, h1, h2⟩
        simp only [h2, h3, and_self, decide_true]
      · have h3 : ¬ BetI a b q := fun x => h2 x.2.2
        simp only [h2, h3, decide_false]
    · refine neg (df h1) ?_
      have h3 : ¬ BetI a b q := fun x => h1 x.2.1
      simp only [h3, decide_false]
  · refine neg (by simp [h]) ?_
    have h3 : ¬ BetI a b q := fun x => h x.1
    simp only [h3, decide_false]
open Classical in
theorem divides_ok {a b p q : IP} (ha : insP a) (hb : insP b) (hp : insP p) (hq : insP q) : callT CG [.v .bool] 26 [.val t1 (a, b), .val t0 p, .val t0 q] = some (decide (DivI a b p q)) := by
  refine callT_of (polygon_side_divides_st (a, b) p q (r := [.val .bool (decide (DivI a b p q))]) ?_) rfl
  refine bnd (turn_ok ha hb hp) (bnd (turn_ok ha hb hq) ?_)
  have two : ∀ {x y : Int} {r : Bool}, (decide (0 < x ∧ y < 0) = r) → (if decide (x > (0 : Int)) = true then some [D.val .bool (decide (y < (0 : Int)))] else some [D.val .bool false]) = some [D.val .bool r] := by
    rintro x y r rfl
    by_cases hx : x > 0
    · rw [if_pos (dt hx)]; simp [show 0 < x from hx]
    · rw [if_neg (df hx)]; simp [hx]
  by_cases h1 : crI a b p < 0
  · refine pos (dt h1) ?_
    by_cases h2 : crI a b q > 0
    · refine pos (dt h2) ?_; rw [decide_eq_true (show DivI a b p q from Or.inl ⟨h1, h2⟩)]
    · refine neg (df h2) (two (x := crI a b p) (y := crI a b q) ?_)
      rw [decide_eq_false (show ¬ DivI a b p q from fun h => by rcases h with h | h <;> omega)]
      exact decide_eq_false (by omega)
  · refine neg (df h1) (two (x := crI a b p) (y := crI a b q) ?_)
    apply decide_eq_decide.2
    unfold DivI
    omega
open Classical in
theorem meets_ok {a b c d : IP} (ha : insP a) (hb : insP b) (hc : insP c) (hd : insP d) : callT CG [.v .bool] 24 [.val t1 (a, b), .val t1 (c, d)] = some (decide (MeetI a b c d)) := by
  refine callT_of (polygon_side_meets_st (a, b) (c, d) (r := [.val .bool (decide (MeetI a b c d))]) ?_) rfl
  refine bnd (holds_ok ha hb hc) ?_
  by_cases h1 : BetI a b c
  · refine pos (dt h1) ?_; rw [decide_eq_true (show MeetI a b c d from Or.inl h1)]
  refine neg (df h1) (bnd (holds_ok ha hb hd) ?_)
  by_cases h2 : BetI a b d
  · refine pos (dt h2) ?_; rw [decide_eq_true (show MeetI a b c d from Or.inr (Or.inl h2))]
  refine neg (df h2) (bnd (holds_ok hc hd ha) ?_)
  by_cases h3 : BetI c d a
  · refine pos (dt h3) ?_; rw [decide_eq_true (show MeetI a b c d from Or.inr (Or.inr (Or.inl h3)))]
  refine neg (df h3) (bnd (holds_ok hc hd hb) ?_)
  by_cases h4 : BetI c d b
  · refine pos (dt h4) ?_; rw [decide_eq_true (show MeetI a b c d from Or.inr (Or.inr (Or.inr (Or.inl h4))))]
  refine neg (df h4) (bnd (divides_ok ha hb hc hd) ?_)
  by_cases h5 : DivI a b c d
  · refine pos (dt h5) (bnd (divides_ok hc hd ha hb) ?_)
    rw [show decide (MeetI a b c d) = decide (DivI c d a b) from decide_eq_decide.2 (by unfold MeetI; simp [h1, h2, h3, h4, h5])]
  · refine neg (df h5) ?_
    rw [decide_eq_false (show ¬ MeetI a b c d from by unfold MeetI; simp [h1, h2, h3, h4, h5])]
/-- the sides -/
def sds (P : List IP) : List (IP × IP) := (List.range P.length).map fun i => (nth P i, nth P (i + 1))
theorem sds_len (P : List IP) : (sds P).length = P.length := by simp [sds]
theorem sds_get {P : List IP} {i : Nat} (h : i < P.length) (z : IP × IP) : (sds P).getD i z = (nth P i, nth P (i + 1)) := range_getD (fun i => (nth P i, nth P (i + 1))) h z
theorem sides_lp (P : List IP) (hl : P.length < 4611686018427387904) : ∀ (k i : Nat), i + k = P.length →
    polygon_sides_lp1 CG P P P (P.length : Int) (i : Int) ((List.range P.length).map fun j => if j < i then (nth P j, nth P (j + 1)) else ((0, 0), (0, 0))) = some [.own t1 (sds P)]
  | 0, i, h => by
    refine polygon_sides_lp1_st _ _ _ _ _ _ ?_
    refine neg (ige (by omega)) ?_
    obtain rfl : i = P.length := by omega
    rw [fill_end (fun j => (nth P j, nth P (j + 1)))]; rfl
  | k + 1, i, h => by
    have hi : i < P.length := by omega
    refine polygon_sides_lp1_st _ _ _ _ _ _ ?_
    refine pos (ilt hi) (pos (ixn hi) (pos (by omega) ?_))
    rw [wrS (by omega), tmod_nat]
    have hm := Nat.mod_lt (i + 1) (show 0 < P.length by omega)
    refine pos (ixn hm) (pos (by simp; omega) ?_)
    simp only [Int.toNat_natCast]
    rw [nth_getD hi, show P.getD ((i + 1) % P.length) (0, 0) = nth P (i + 1) from rfl, set_fill (fun j => (nth P j, nth P (j + 1)))]
    exact sides_lp P hl k (i + 1) (by omega)
theorem sides_ok {P : List IP} (hl : P.length < 8796093022208) : callT CG [.o t1] 22 [.val (.sl t0) P] = some (sds P) := by
  refine callT_of (polygon_sides_st P (r := [.own t1 (sds P)]) ?_) rfl
  refine pos (by omega) ?_
  rw [Int.toNat_natCast, ← fill_start (fun j => (nth P j, nth P (j + 1)))]
  exact sides_lp P (by omega) P.length 0 (by omega)
end Pl
end
section
/- The program's test of a polygon. -/
namespace Pl
open Go Geo Pm
def RowI (P : List IP) (i : Nat) : Prop := nth P i ≠ nth P (i + 1) ∧ ¬ BetI (nth P i) (nth P (i + 1)) (nth P (i + 2)) ∧ ¬ BetI (nth P (i + 1)) (nth P (i + 2)) (nth P i) ∧
  ∀ k, i + 2 ≤ k → k < P.length → ¬ (i = 0 ∧ k = P.length - 1) → ¬ MeetI (nth P i) (nth P (i + 1)) (nth P k) (nth P (k + 1))
def RowsI (P : List IP) (i : Nat) : Prop := ∀ j, i ≤ j → j < P.length → RowI P j
theorem rows0 (P : List IP) : RowsI P 0 ↔ SimpI P := ⟨fun h i hi => h i (Nat.zero_le _) hi, fun h j _ hj => h j hj⟩
theorem rowsS {P : List IP} {i : Nat} (hi : i < P.length) : RowsI P i ↔ RowI P i ∧ RowsI P (i + 1) :=
  ⟨fun h => ⟨h i (Nat.le_refl _) hi, fun j h1 h2 => h j (by omega) h2⟩, fun h j h1 h2 => by
    by_cases e : j = i
    · rw [e]; exact h.1
    · exact h.2 j (by omega) h2⟩
theorem eq_pair (a b : IP) : ((a.1 == b.1) && (a.2 == b.2)) = true ↔ a = b := by
  rw [Bool.and_eq_true, beq_iff_eq, beq_iff_eq]; exact ⟨fun h => Prod.ext h.1 h.2, fun h => by rw [h]; exact ⟨rfl, rfl⟩⟩
theorem nth_mod1 (P : List IP) (i : Nat) : nth P ((i + 1) % P.length) = nth P (i + 1) := nth_modl P (i + 1)
theorem nth_mod2 (P : List IP) (i : Nat) : nth P ((i + 1) % P.length + 1) = nth P (i + 2) := by unfold nth; rw [Nat.mod_add_mod]
def Beyond (P : List IP) (i k : Nat) : Prop := ∀ k', k ≤ k' → k' < P.length → ¬ (i = 0 ∧ k' = P.length - 1) → ¬ MeetI (nth P i) (nth P (i + 1)) (nth P k') (nth P (k' + 1))
theorem beyondS {P : List IP} {i k : Nat} (hk : k < P.length) : Beyond P i k ↔ (¬ (i = 0 ∧ k = P.length - 1) → ¬ MeetI (nth P i) (nth P (i + 1)) (nth P k) (nth P (k + 1))) ∧ Beyond P i (k + 1) :=
  ⟨fun h => ⟨h k (Nat.le_refl _) hk, fun j h1 h2 => h j (by omega) h2⟩, fun h j h1 h2 => by
    by_cases e : j = k
    · rw [e]; exact h.1
    · exact h.2 j (by omega) h2⟩
open Classical in
theorem simple_lp2 {P : List IP} (hl : P.length < 4611686018427387904) (hb : InsI P) {i : Nat} (hi : i < P.length)
    (hn : polygon_simple_lp1 CG P (P.length : Int) ((i + 1 : Nat) : Int) (sds P) = some [.val .bool (decide (RowsI P (i + 1)))]) : ∀ (m k : Nat), k + m = P.length →
    polygon_simple_lp2 CG P (i : Int) (k : Int) (P.length : Int) (i : Int) (sds P) (nth P i, nth P (i + 1)) = some [.val .bool (decide (Beyond P i k ∧ RowsI P (i + 1)))]
  | 0, k, h => by
    refine polygon_simple_lp2_st _ _ _ _ _ _ _ ?_
    rw [sds_len]
    refine neg (ige (by omega)) ?_
    rw [wrS (by omega), hn, show decide (Beyond P i k ∧ RowsI P (i + 1)) = decide (RowsI P (i + 1)) from decide_eq_decide.2 ⟨fun h => h.2, fun h' => ⟨fun k' h1 h2 => by omega, h'⟩⟩]
  | m + 1, k, h => by
    have hk : k < P.length := by omega
    have hP : P ≠ [] := by rintro rfl; cases hi
    have ih := simple_lp2 hl hb hi hn m (k + 1) (by omega)
    have go : ¬ (i = 0 ∧ k = P.length - 1) → ∀ A : Option R, (((callT CG [.v .bool] 24 [.val t1 (nth P i, nth P (i + 1)), .val t1 ((sds P).getD (Int.toNat (k : Int)) ((0, 0), (0, 0)))]).bind fun r1 => (if r1 = true then (some [.val .bool false]) else (polygon_simple_lp2 CG P (i : Int) (wr .i64 ((k : Int) + 1)) (P.length : Int) (i : Int) (sds P) (nth P i, nth P (i + 1)))))) = A → A = some [.val .bool (decide (Beyond P i k ∧ RowsI P (i + 1)))] := by
      rintro hs A rfl
      rw [Int.toNat_natCast, sds_get hk]
      refine bnd (meets_ok (insP_of hb hP _) (insP_of hb hP _) (insP_of hb hP _) (insP_of hb hP _)) ?_
      by_cases hm : MeetI (nth P i) (nth P (i + 1)) (nth P k) (nth P (k + 1))
      · refine pos (dt hm) ?_
        rw [decide_eq_false (fun h' => (beyondS hk).1 h'.1 |>.1 hs hm)]
      · refine neg (df hm) ?_
        rw [wrS (by omega), ih]
        rw [show decide (Beyond P i k ∧ RowsI P (i + 1)) = decide (Beyond P i (k + 1) ∧ RowsI P (i + 1)) from decide_eq_decide.2 (by rw [beyondS hk]; simp [hm])]
    refine polygon_simple_lp2_st _ _ _ _ _ _ _ ?_
    rw [sds_len]
    refine pos (ilt hk) ?_
    by_cases h0 : i = 0
    · refine pos (by simp [h0]) ?_
      rw [wr64 (x := (P.length : Int) - 1) (by omega) (by omega)]
      by_cases h1 : k = P.length - 1
      · refine pos (by simp only [beq_iff_eq]; omega) ?_
        rw [wrS (by omega), ih]
        rw [show decide (Beyond P i k ∧ RowsI P (i + 1)) = decide (Beyond P i (k + 1) ∧ RowsI P (i + 1)) from decide_eq_decide.2 (by rw [beyondS hk]; simp [h0, h1])]
      · refine neg (by simp only [beq_iff_eq]; omega) (pos (ixn hk) (go (by omega) _ rfl))
    · refine neg (by simp only [beq_iff_eq]; omega) (pos (ixn hk) (go (by omega) _ rfl))
open Classical in
theorem simple_lp1 {P : List IP} (hl : P.length < 4611686018427387904) (hb : InsI P) : ∀ (m i : Nat), i + m = P.length →
    polygon_simple_lp1 CG P (P.length : Int) (i : Int) (sds P) = some [.val .bool (decide (RowsI P i))]
  | 0, i, h => by
    refine polygon_simple_lp1_st _ _ _ _ ?_
    refine neg (ige (by omega)) ?_
    rw [decide_eq_true (show RowsI P i from fun j h1 h2 => by omega)]
  | m + 1, i, h => by
    have hi : i < P.length := by omega
    have hP : P ≠ [] := by rintro rfl; cases hi
    have hm := Nat.mod_lt (i + 1) (show 0 < P.length by omega)
    refine polygon_simple_lp1_st _ _ _ _ ?_
    simp only [sds_len, Int.toNat_natCast, sds_get hi, wrS (show i < 4611686018427387904 by omega), tmod_nat, sds_get hm, nth_mod1, nth_mod2]
    refine pos (ilt hi) (pos (ixn hi) ?_)
    by_cases h1 : nth P i = nth P (i + 1)
    · refine pos ((eq_pair _ _).2 h1) ?_
      rw [decide_eq_false (show ¬ RowsI P i from fun h' => ((rowsS hi).1 h').1.1 h1)]
    refine neg (fun h' => h1 ((eq_pair _ _).1 h')) (pos (by omega) (pos (ixn hm) ?_))
    refine bnd (holds_ok (insP_of hb hP _) (insP_of hb hP _) (insP_of hb hP _)) ?_
    by_cases h2 : BetI (nth P i) (nth P (i + 1)) (nth P (i + 2))
    · refine pos (dt h2) ?_
      rw [decide_eq_false (show ¬ RowsI P i from fun h' => ((rowsS hi).1 h').1.2.1 h2)]
    refine neg (df h2) (bnd (holds_ok (insP_of hb hP _) (insP_of hb hP _) (insP_of hb hP _)) ?_)
    by_cases h3 : BetI (nth P (i + 1)) (nth P (i + 2)) (nth P i)
    · refine pos (dt h3) ?_
      rw [decide_eq_false (show ¬ RowsI P i from fun h' => ((rowsS hi).1 h').1.2.2.1 h3)]
    refine neg (df h3) ?_
    rw [wrS2 (by omega)]
    have e : decide (RowsI P i) = decide (Beyond P i (i + 2) ∧ RowsI P (i + 1)) := decide_eq_decide.2 (by
      rw [rowsS hi]
      exact ⟨fun h' => ⟨h'.1.2.2.2, h'.2⟩, fun h' => ⟨⟨h1, h2, h3, h'.1⟩, h'.2⟩⟩)
    rw [e]
    have hn := simple_lp1 hl hb m (i + 1) (by omega)
    by_cases hk : i + 2 ≤ P.length
    · exact simple_lp2 hl hb hi hn (P.length - (i + 2)) (i + 2) (by omega)
    · refine polygon_simple_lp2_st _ _ _ _ _ _ _ ?_
      rw [sds_len]
      refine neg (ige (by omega)) ?_
      rw [wrS (by omega), hn, show decide (Beyond P i (i + 2) ∧ RowsI P (i + 1)) = decide (RowsI P (i + 1)) from decide_eq_decide.2 ⟨fun h => h.2, fun h' => ⟨fun k' h1 h2 => by omega, h'⟩⟩]
open Classical in
theorem simple_ok {P : List IP} (hl : P.length < 8796093022208) (hb : InsI P) : callT CG [.v .bool] 21 [.val (.sl t0) P] = some (decide (SimpI P)) := by
  refine callT_of (polygon_simple_st P (r := [.val .bool (decide (SimpI P))]) ?_) rfl
  refine bnd (sides_ok hl) ?_
  have := simple_lp1 (by omega) hb P.length 0 (by omega)
  rw [sds_len, show decide (SimpI P) = decide (RowsI P 0) from decide_eq_decide.2 (rows0 P).symm]
  exact this
theorem inside_ok (n : Int) : callT CG [.v .bool] 20 [.val tI n] = some (decide (insI n)) := by
  refine callT_of (polygon_inside_st n (r := [.val .bool (decide (insI n))]) ?_) rfl
  by_cases h : n ≥ -1048576
  · refine pos (dt h) ?_; rw [show decide (n ≤ (1048576 : Int)) = decide (insI n) from decide_eq_decide.2 (by unfold insI; omega)]
  · refine neg (df h) ?_; rw [decide_eq_false (show ¬ insI n from fun h' => h h'.1)]
open Classical in
theorem check_lp {P : List IP} (h3 : 3 ≤ P.length) (h40 : P.length ≤ 40) : ∀ (m i : Nat), i + m = P.length → (∀ s ∈ P.take i, insP s) →
    polygon_Check_lp1 CG P P P (P.length : Int) (i : Int) = some [.val tI (chk P)]
  | 0, i, h, hb => by
    have hb : InsI P := by rw [List.take_of_length_le (by omega)] at hb; exact hb
    refine polygon_Check_lp1_st _ _ _ _ _ ?_
    have hc : chk P = if SimpI P then 0 else 11 := by
      unfold chk
      rw [if_neg (by omega), if_neg (by omega), if_neg (fun h' => h' hb)]
    refine neg (ige (by omega)) (bnd (simple_ok (by omega) hb) ?_)
    by_cases hs : SimpI P
    · refine neg (by simp [hs]) ?_; rw [hc, if_pos hs]
    · refine pos (by simp [hs]) ?_; rw [hc, if_neg hs]
  | m + 1, i, h, hb => by
    have hi : i < P.length := by omega
    have bad : ¬ insP P[i] → chk P = 3 := fun hn => by
      unfold chk
      rw [if_neg (by omega), if_neg (by omega), if_pos (fun h' => hn (h' _ (List.getElem_mem hi)))]
    refine polygon_Check_lp1_st _ _ _ _ _ ?_
    rw [Int.toNat_natCast, getD_eq hi]
    refine pos (ilt hi) (pos (ixn hi) (bnd (inside_ok _) ?_))
    by_cases h1 : insI P[i].1
    · refine neg (by simp [h1]) (bnd (inside_ok _) ?_)
      by_cases h2 : insI P[i].2
      · refine neg (by simp [h2]) ?_
        rw [wrS (by omega)]
        refine check_lp h3 h40 m (i + 1) (by omega) ?_
        intro s hs
        rw [List.take_succ_eq_append_getElem hi, List.mem_append] at hs
        rcases hs with hs | hs
        · exact hb s hs
        · rw [List.mem_singleton.1 hs]; exact ⟨h1, h2⟩
      · refine pos (by simp [h2]) ?_
        rw [bad (fun h' => h2 h'.2)]
    · refine pos (by simp [h1]) ?_
      rw [bad (fun h' => h1 h'.1)]
theorem check_cg (P : List IP) : CG 13 [.val (.sl t0) P] = some [.val tI (chk P)] := by
  refine polygon_Check_st P ?_
  by_cases h1 : 40 < P.length
  · refine pos (dt (by omega)) ?_; unfold chk; rw [if_pos h1]
  refine neg (df (by omega)) ?_
  by_cases h2 : P.length < 3
  · refine pos (dt (by omega)) ?_; unfold chk; rw [if_neg h1, if_pos h2]
  refine neg (df (by omega)) ?_
  exact check_lp (by omega) (by omega) P.length 0 (by omega) (by simp)
end Pl
end
section
/- What the reference's polygon functions compute: the test of a polygon. -/
namespace Pl
open Go Geo Pm
theorem cross_w {a b c : IP} (ha : insP a) (hb : insP b) (hc : insP c) : wr .i64 (wr .i64 (wr .i64 (b.1 - a.1) * wr .i64 (c.2 - a.2)) - wr .i64 (wr .i64 (b.2 - a.2) * wr .i64 (c.1 - a.1))) = crI a b c := by
  have hc' := cr_bound ha hb hc
  obtain ⟨a1, a2⟩ := ha; obtain ⟨b1, b2⟩ := hb; obtain ⟨c1, c2⟩ := hc
  unfold insI at *
  have h1 := prod_bound (x := b.1 - a.1) (y := c.2 - a.2) (M := 2097152) (by omega) (by omega) (by omega) (by omega)
  have h2 := prod_bound (x := b.2 - a.2) (y := c.1 - a.1) (M := 2097152) (by omega) (by omega) (by omega) (by omega)
  unfold crI at *
  rw [wr64 (x := b.1 - a.1) (by omega) (by omega), wr64 (x := c.2 - a.2) (by omega) (by omega), wr64 (x := b.2 - a.2) (by omega) (by omega), wr64 (x := c.1 - a.1) (by omega) (by omega), wr64 (x := (b.1 - a.1) * (c.2 - a.2)) (by omega) (by omega), wr64 (x := (b.2 - a.2) * (c.1 - a.1)) (by omega) (by omega), wr64 (by omega) (by omega)]
theorem cross_ok {a b c : IP} (ha : insP a) (hb : insP b) (hc : insP c) : callT CG [.v tI] 33 [.val t0 a, .val t0 b, .val t0 c] = some (crI a b c) :=
  callT_of (garmentref11_Cross_st a b c (by rw [cross_w ha hb hc])) rfl
def sgI (n : Int) : Int := if n > 0 then 1 else if n < 0 then -1 else 0
theorem sign_ok (n : Int) : callT CG [.v tI] 72 [.val tI n] = some (sgI n) := by
  refine callT_of (garmentref11_sign_st n (r := [.val tI (sgI n)]) ?_) rfl
  unfold sgI
  simp only [decide_eq_true_eq]
  (repeat' split) <;> rfl
open Classical in
theorem between_ok {a b q : IP} (ha : insP a) (hb : insP b) (hq : insP q) : callT CG [.v .bool] 70 [.val t0 a, .val t0 b, .val t0 q] = some (decide (BetI a b q)) := by
  refine callT_of (garmentref11_Between_st a b q (r := [.val .bool (decide (BetI a b q))]) ?_) rfl
  refine bnd (cross_ok ha hb hq) ?_
  rw [min_if, max_if, min_if, max_if]
  have no : ¬ BetI a b q → some [D.val .bool false] = some [D.val .bool (decide (BetI a b q))] := fun h => by rw [decide_eq_false h]
  by_cases h : crI a b q = 0
  · refine pos (by simp [h]) ?_
    by_cases h1 : min a.1 b.1 ≤ q.1
    · refine pos (dt h1) ?_
      by_cases h2 : q.1 ≤ max a.1 b.1
      · refine pos (dt h2) ?_
        by_cases h3 : min a.2 b.2 ≤ q.2
        · refine pos (dt h3) ?_
          rw [show decide (q.2 ≤ max a.2 b.2) = decide (BetI a b q) from decide_eq_decide.2 ⟨fun h4 => ⟨h, ⟨h1, h2⟩, h3, h4⟩, fun h4 => h4.2.2.2⟩]
        · exact neg (df h3) (no fun x => h3 x.2.2.1)
      · exact neg (df h2) (no fun x => h2 x.2.1.2)
    · exact neg (df h1) (no fun x => h1 x.2.1.1)
  · exact neg (by simp [h]) (no fun x => h x.1)
theorem sg_prod (x y : Int) : (wr .i64 (sgI x * sgI y) < 0) ↔ ((x < 0 ∧ 0 < y) ∨ (0 < x ∧ y < 0)) := by
  unfold sgI
  (repeat' split) <;> (rw [wr64 (by omega) (by omega)]; omega)
open Classical in
theorem meet_ok {a b c d : IP} (ha : insP a) (hb : insP b) (hc : insP c) (hd : insP d) : callT CG [.v .bool] 71 [.val t0 a, .val t0 b, .val t0 c, .val t0 d] = some (decide (MeetI a b c d)) := by
  refine callT_of (garmentref11_meet_st a b c d (r := [.val .bool (decide (MeetI a b c d))]) ?_) rfl
  refine bnd (between_ok ha hb hc) ?_
  by_cases h1 : BetI a b c
  · refine pos (dt h1) ?_; rw [decide_eq_true (show MeetI a b c d from Or.inl h1)]
  refine neg (df h1) (bnd (between_ok ha hb hd) ?_)
  by_cases h2 : BetI a b d
  · refine pos (dt h2) ?_; rw [decide_eq_true (show MeetI a b c d from Or.inr (Or.inl h2))]
  refine neg (df h2) (bnd (between_ok hc hd ha) ?_)
  by_cases h3 : BetI c d a
  · refine pos (dt h3) ?_; rw [decide_eq_true (show MeetI a b c d from Or.inr (Or.inr (Or.inl h3)))]
  refine neg (df h3) (bnd (between_ok hc hd hb) ?_)
  by_cases h4 : BetI c d b
  · refine pos (dt h4) ?_; rw [decide_eq_true (show MeetI a b c d from Or.inr (Or.inr (Or.inr (Or.inl h4))))]
  refine neg (df h4) (bnd (cross_ok ha hb hc) (bnd (sign_ok _) (bnd (cross_ok ha hb hd) (bnd (sign_ok _) ?_))))
  by_cases h5 : DivI a b c d
  · refine pos (dt ((sg_prod _ _).2 h5)) (bnd (cross_ok hc hd ha) (bnd (sign_ok _) (bnd (cross_ok hc hd hb) (bnd (sign_ok _) ?_))))
    rw [show decide (wr .i64 (sgI (crI c d a) * sgI (crI c d b)) < 0) = decide (MeetI a b c d) from decide_eq_decide.2 (by rw [sg_prod]; unfold MeetI; simp only [h1, h2, h3, h4, h5, false_or, true_and]; exact Iff.rfl)]
  · refine neg (df (fun h => h5 ((sg_prod _ _).1 h))) ?_
    rw [decide_eq_false (show ¬ MeetI a b c d from by unfold MeetI; simp [h1, h2, h3, h4, h5])]
theorem within11_ok (s : IP) : callT CG [.v .bool] 68 [.val t0 s, .val tI (1048576 : Int)] = some (decide (insI s.1 ∧ insI s.2)) := by
  refine callT_of (garmentref11_Within_st s 1048576 (r := [.val .bool (decide (insI s.1 ∧ insI s.2))]) ?_) rfl
  rw [wr64 (by omega) (by omega)]
  unfold insI
  simp only [decide_eq_true_eq]
  (repeat' split) <;> (simp only [Option.some.injEq, List.cons.injEq, and_true]; congr 1; first | (rw [decide_eq_decide]; omega) | (symm; rw [decide_eq_false_iff_not]; omega))
theorem wrap_k {P : List IP} {k i : Nat} (hk : k < P.length) (hi : i + 2 ≤ k) : (((k + 1) % P.length : Nat) : Int) ≠ (i : Int) ↔ ¬ (i = 0 ∧ k = P.length - 1) := by
  by_cases h : k + 1 = P.length
  · rw [h, Nat.mod_self]; omega
  · rw [Nat.mod_eq_of_lt (by omega)]; omega
open Classical in
theorem rsimple_lp2 {P : List IP} (hl : P.length < 4611686018427387904) (hb : InsI P) {i : Nat} (hi : i < P.length)
    (hn : garmentref11_simple_lp1 CG P P (P.length : Int) ((i + 1 : Nat) : Int) = some [.val .bool (decide (RowsI P (i + 1)))]) : ∀ (m k : Nat), k + m = P.length → i + 2 ≤ k →
    garmentref11_simple_lp2 CG P P (P.length : Int) (i : Int) (k : Int) (nth P i) (nth P (i + 1)) = some [.val .bool (decide (Beyond P i k ∧ RowsI P (i + 1)))]
  | 0, k, h, hik => by
    refine garmentref11_simple_lp2_st _ _ _ _ _ _ _ ?_
    refine neg (ige (by omega)) ?_
    rw [wrS (by omega), hn, show decide (Beyond P i k ∧ RowsI P (i + 1)) = decide (RowsI P (i + 1)) from decide_eq_decide.2 ⟨fun h => h.2, fun h' => ⟨fun k' h1 h2 => by omega, h'⟩⟩]
  | m + 1, k, h, hik => by
    have hk : k < P.length := by omega
    have hP : P ≠ [] := by rintro rfl; cases hi
    have hm := Nat.mod_lt (k + 1) (show 0 < P.length by omega)
    have ih := rsimple_lp2 hl hb hi hn m (k + 1) (by omega) (by omega)
    refine garmentref11_simple_lp2_st _ _ _ _ _ _ _ ?_
    rw [wrS (by omega), tmod_nat]
    simp only [Int.toNat_natCast]
    rw [show P.getD ((k + 1) % P.length) (0, 0) = nth P (k + 1) from rfl, nth_getD hk]
    refine pos (ilt hk) (pos (by omega) ?_)
    by_cases hs : i = 0 ∧ k = P.length - 1
    · refine neg (by simp only [bne_iff_ne]; rw [wrap_k hk hik]; simp [hs]) ?_
      rw [ih, show decide (Beyond P i k ∧ RowsI P (i + 1)) = decide (Beyond P i (k + 1) ∧ RowsI P (i + 1)) from decide_eq_decide.2 (by rw [beyondS hk]; simp [hs])]
    · refine pos (by simp only [bne_iff_ne]; rw [wrap_k hk hik]; exact hs) (pos (ixn hk) (pos (by omega) (pos (ixn hm) (bnd (meet_ok (insP_of hb hP _) (insP_of hb hP _) (insP_of hb hP _) (insP_of hb hP _)) ?_))))
      by_cases hm : MeetI (nth P i) (nth P (i + 1)) (nth P k) (nth P (k + 1))
      · refine pos (dt hm) ?_
        rw [decide_eq_false (fun h' => (beyondS hk).1 h'.1 |>.1 hs hm)]
      · refine neg (df hm) ?_
        rw [ih]
        rw [show decide (Beyond P i k ∧ RowsI P (i + 1)) = decide (Beyond P i (k + 1) ∧ RowsI P (i + 1)) from decide_eq_decide.2 (by rw [beyondS hk]; simp [hm])]
open Classical in
theorem rsimple_lp1 {P : List IP} (hl : P.length < 4611686018427387904) (hb : InsI P) : ∀ (m i : Nat), i + m = P.length →
    garmentref11_simple_lp1 CG P P (P.length : Int) (i : Int) = some [.val .bool (decide (RowsI P i))]
  | 0, i, h => by
    refine garmentref11_simple_lp1_st _ _ _ _ ?_
    refine neg (ige (by omega)) ?_
    rw [decide_eq_true (show RowsI P i from fun j h1 h2 => by omega)]
  | m + 1, i, h => by
    have hi : i < P.length := by omega
    have hP : P ≠ [] := by rintro rfl; cases hi
    have hm := Nat.mod_lt (i + 1) (show 0 < P.length by omega)
    have hm2 := Nat.mod_lt (i + 2) (show 0 < P.length by omega)
    refine garmentref11_simple_lp1_st _ _ _ _ ?_
    rw [wrS (by omega), wrS2 (by omega), tmod_nat, tmod_nat]
    simp only [Int.toNat_natCast]
    rw [show P.getD ((i + 1) % P.length) (0, 0) = nth P (i + 1) from rfl, show P.getD ((i + 2) % P.length) (0, 0) = nth P (i + 2) from rfl, nth_getD hi]
    refine pos (ilt hi) (pos (ixn hi) (pos (by omega) (pos (ixn hm) (pos (by omega) (pos (ixn hm2) ?_)))))
    by_cases h1 : nth P i = nth P (i + 1)
    · refine pos ((eq_pair _ _).2 h1) ?_
      rw [decide_eq_false (show ¬ RowsI P i from fun h' => ((rowsS hi).1 h').1.1 h1)]
    refine neg (fun h' => h1 ((eq_pair _ _).1 h')) ?_
    refine bnd (between_ok (insP_of hb hP _) (insP_of hb hP _) (insP_of hb hP _)) ?_
    by_cases h2 : BetI (nth P i) (nth P (i + 1)) (nth P (i + 2))
    · refine pos (dt h2) ?_
      rw [decide_eq_false (show ¬ RowsI P i from fun h' => ((rowsS hi).1 h').1.2.1 h2)]
    refine neg (df h2) (bnd (between_ok (insP_of hb hP _) (insP_of hb hP _) (insP_of hb hP _)) ?_)
    by_cases h3 : BetI (nth P (i + 1)) (nth P (i + 2)) (nth P i)
    · refine pos (dt h3) ?_
      rw [decide_eq_false (show ¬ RowsI P i from fun h' => ((rowsS hi).1 h').1.2.2.1 h3)]
    refine neg (df h3) ?_
    have e : decide (RowsI P i) = decide (Beyond P i (i + 2) ∧ RowsI P (i + 1)) := decide_eq_decide.2 (by
      rw [rowsS hi]
      exact ⟨fun h' => ⟨h'.1.2.2.2, h'.2⟩, fun h' => ⟨⟨h1, h2, h3, h'.1⟩, h'.2⟩⟩)
    rw [e]
    have hn := rsimple_lp1 hl hb m (i + 1) (by omega)
    by_cases hk : i + 2 ≤ P.length
    · exact rsimple_lp2 hl hb hi hn (P.length - (i + 2)) (i + 2) (by omega) (by omega)
    · refine garmentref11_simple_lp2_st _ _ _ _ _ _ _ ?_
      refine neg (ige (by omega)) ?_
      rw [wrS (by omega), hn, show decide (Beyond P i (i + 2) ∧ RowsI P (i + 1)) = decide (RowsI P (i + 1)) from decide_eq_decide.2 ⟨fun h => h.2, fun h' => ⟨fun k' h1 h2 => by omega, h'⟩⟩]
open Classical in
theorem rsimple_ok {P : List IP} (hl : P.length < 8796093022208) (hb : InsI P) : callT CG [.v .bool] 69 [.val (.sl t0) P] = some (decide (SimpI P)) := by
  refine callT_of (garmentref11_simple_st P (r := [.val .bool (decide (SimpI P))]) ?_) rfl
  have := rsimple_lp1 (by omega) hb P.length 0 (by omega)
  rw [show decide (SimpI P) = decide (RowsI P 0) from decide_eq_decide.2 (rows0 P).symm]
  exact this
open Classical in
theorem rcheck_lp {P : List IP} (h3 : 3 ≤ P.length) (h40 : P.length ≤ 40) : ∀ (m i : Nat), i + m = P.length → (∀ s ∈ P.take i, insP s) →
    garmentref11_Check_lp1 CG P P (i : Int) = some [.val tI (chk P)]
  | 0, i, h, hb => by
    have hb : InsI P := by rw [List.take_of_length_le (by omega)] at hb; exact hb
    have hc : chk P = if SimpI P then 0 else 11 := by
      unfold chk
      rw [if_neg (by omega), if_neg (by omega), if_neg (fun h' => h' hb)]
    refine garmentref11_Check_lp1_st _ _ _ ?_
    refine neg (ige (by omega)) (bnd (rsimple_ok (by omega) hb) ?_)
    by_cases hs : SimpI P
    · refine neg (by simp [hs]) ?_; rw [hc, if_pos hs]
    · refine pos (by simp [hs]) ?_; rw [hc, if_neg hs]
  | m + 1, i, h, hb => by
    have hi : i < P.length := by omega
    have bad : ¬ insP P[i] → chk P = 3 := fun hn => by
      unfold chk
      rw [if_neg (by omega), if_neg (by omega), if_pos (fun h' => hn (h' _ (List.getElem_mem hi)))]
    refine garmentref11_Check_lp1_st _ _ _ ?_
    rw [Int.toNat_natCast, getD_eq hi]
    refine pos (ilt hi) (pos (ixn hi) (bnd (within11_ok _) ?_))
    by_cases h1 : insI P[i].1 ∧ insI P[i].2
    · refine neg (by simp [h1]) ?_
      rw [wrS (by omega)]
      refine rcheck_lp h3 h40 m (i + 1) (by omega) ?_
      intro s hs
      rw [List.take_succ_eq_append_getElem hi, List.mem_append] at hs
      rcases hs with hs | hs
      · exact hb s hs
      · rw [List.mem_singleton.1 hs]; exact h1
    · refine pos (by rw [decide_eq_false h1]; rfl) ?_
      rw [bad h1]
theorem rcheck_cg (P : List IP) : CG 67 [.val (.sl t0) P] = some [.val tI (chk P)] := by
  refine garmentref11_Check_st P ?_
  by_cases h1 : 40 < P.length
  · refine pos (dt (by omega)) ?_; unfold chk; rw [if_pos h1]
  refine neg (df (by omega)) ?_
  by_cases h2 : P.length < 3
  · refine pos (dt (by omega)) ?_; unfold chk; rw [if_neg h1, if_pos h2]
  refine neg (df (by omega)) ?_
  exact rcheck_lp (by omega) (by omega) P.length 0 (by omega) (by simp)
end Pl
end
section
/- Lists: turned round, least elements, rotations. -/
namespace Pl
open Go Geo Pm
/-- by X and then by Y -/
def lexP (a b : IP) : Prop := a.1 < b.1 ∨ (a.1 = b.1 ∧ a.2 < b.2)
instance (a b : IP) : Decidable (lexP a b) := inferInstanceAs (Decidable (_ ∨ _))
end Pl
end
section
/- Plane geometry over the rationals: crossing numbers of closed paths. -/
namespace Geo
abbrev Pt := Rat × Rat
/-- twice the signed area of a triangle -/
def cr (a b c : Pt) : Rat := (b.1 - a.1) * (c.2 - a.2) - (b.2 - a.2) * (c.1 - a.1)
/-- how an edge crosses the ray to the right -/
def cc (u v q : Pt) : Int :=
  if u.2 ≤ q.2 ∧ q.2 < v.2 ∧ 0 < cr u v q then 1
  else if v.2 ≤ q.2 ∧ q.2 < u.2 ∧ cr u v q < 0 then -1 else 0
theorem div_nn {a p : Rat} (hp : 0 < p) (h : 0 ≤ a) : 0 ≤ a / p := by
  have e : a / p * p = a := by grind
  rcases Rat.le_total (a := 0) (b := a / p) with h1 | h1
  · exact h1
  · have := Rat.mul_nonneg (show 0 ≤ - (a / p) by grind) (show 0 ≤ p by grind)
    have h0 : a = 0 := by grind
    subst h0
    have : (0 : Rat) / p = 0 := by grind
    rw [this]; exact Rat.le_refl
theorem div_le1 {a p : Rat} (hp : 0 < p) (h : a ≤ p) : a / p ≤ 1 := by
  have h1 := div_nn hp (show 0 ≤ p - a by grind)
  have e : (p - a) / p = 1 - a / p := by grind
  grind
theorem div_pos {a p : Rat} (hp : 0 < p) (h : 0 < a) : 0 < a / p := by
  have h1 := div_nn hp (show 0 ≤ a by grind)
  have e : a / p * p = a := by grind
  have : a / p ≠ 0 := by intro h0; rw [h0] at e; grind
  grind
def On (u v x : Pt) : Prop := ∃ t : Rat, 0 ≤ t ∧ t ≤ 1 ∧ x = (u.1 + t * (v.1 - u.1), u.2 + t * (v.2 - u.2))
theorem cr_anti (u v q : Pt) : cr v u q = - cr u v q := by unfold cr; grind
theorem cr_self1 (u v : Pt) : cr u v u = 0 := by unfold cr; grind
theorem cr_self2 (u v : Pt) : cr u v v = 0 := by unfold cr; grind
theorem On_left (u v : Pt) : On u v u := ⟨0, by grind, by grind, by grind⟩
theorem On_right (u v : Pt) : On u v v := ⟨1, by grind, by grind, by grind⟩
theorem On_symm {u v x : Pt} (h : On u v x) : On v u x := by
  obtain ⟨t, h0, h1, rfl⟩ := h
  exact ⟨1 - t, by grind, by grind, by grind⟩
theorem On_cr {u v x : Pt} (h : On u v x) : cr u v x = 0 := by
  obtain ⟨t, h0, h1, rfl⟩ := h
  unfold cr; grind
/-- an affine function along a segment -/
theorem cr_On {u v x : Pt} (p q : Pt) {t : Rat} (h : x = (u.1 + t * (v.1 - u.1), u.2 + t * (v.2 - u.2))) :
    cr p q x = (1 - t) * cr p q u + t * cr p q v := by
  subst h; unfold cr; grind
theorem On_ofY {u v x : Pt} (hc : cr u v x = 0) (h : u.2 < v.2) (h1 : u.2 ≤ x.2) (h2 : x.2 ≤ v.2) : On u v x := by
  have hd : v.2 - u.2 ≠ 0 := by grind
  have hp : 0 < v.2 - u.2 := by grind
  refine ⟨(x.2 - u.2) / (v.2 - u.2), ?_, ?_, ?_⟩
  · exact div_nn hp (by grind)
  · exact div_le1 hp (by grind)
  · unfold cr at hc
    obtain ⟨x1, x2⟩ := x
    simp only at hc h1 h2 ⊢
    have e : (x2 - u.2) / (v.2 - u.2) * (v.2 - u.2) = x2 - u.2 := by grind
    have e2 : (x2 - u.2) / (v.2 - u.2) * (v.1 - u.1) = x1 - u.1 := by
      grind
    rw [e, e2]; grind
theorem ivt {p q s t : Pt} (h1 : cr p q s < 0) (h2 : 0 ≤ cr p q t) : ∃ x, On s t x ∧ cr p q x = 0 ∧ x ≠ s := by
  have hp : 0 < cr p q t - cr p q s := by grind
  refine ⟨_, ⟨(- cr p q s) / (cr p q t - cr p q s), ?_, ?_, rfl⟩, ?_, ?_⟩
  · exact div_nn hp (by grind)
  · exact div_le1 hp (by grind)
  · rw [cr_On p q rfl]; grind
  · intro e
    have := congrArg (cr p q) e
    rw [cr_On p q rfl] at this
    grind
theorem On_Y {u v x : Pt} (h : On u v x) : (u.2 ≤ x.2 ∧ x.2 ≤ v.2) ∨ (v.2 ≤ x.2 ∧ x.2 ≤ u.2) := by
  obtain ⟨t, h0, h1, rfl⟩ := h
  rcases Rat.le_total (a := u.2) (b := v.2) with h | h
  · left
    have a := Rat.mul_nonneg h0 (show 0 ≤ v.2 - u.2 by grind)
    have b := Rat.mul_nonneg (show 0 ≤ 1 - t by grind) (show 0 ≤ v.2 - u.2 by grind)
    constructor <;> grind
  · right
    have a := Rat.mul_nonneg h0 (show 0 ≤ u.2 - v.2 by grind)
    have b := Rat.mul_nonneg (show 0 ≤ 1 - t by grind) (show 0 ≤ u.2 - v.2 by grind)
    constructor <;> grind
end Geo
end
section
/- Paths, closed paths, simple polygons. -/
namespace Geo
def es : List Pt → List (Pt × Pt)
  | a :: b :: l => (a, b) :: es (b :: l)
  | _ => []
def pw : List Pt → Pt → Int
  | a :: b :: l, q => cc a b q + pw (b :: l) q
  | _, _ => 0
/-- the sides of a closed path -/
def ces : List Pt → List (Pt × Pt)
  | [] => []
  | a :: l => es (a :: (l ++ [a]))
/-- the winding number of a closed path -/
def cw : List Pt → Pt → Int
  | [], _ => 0
  | a :: l, q => pw (a :: (l ++ [a])) q
@[simp] theorem es_one (a : Pt) : es [a] = [] := rfl
@[simp] theorem es_nil : es [] = [] := rfl
@[simp] theorem es_two (a b : Pt) (l : List Pt) : es (a :: b :: l) = (a, b) :: es (b :: l) := rfl
@[simp] theorem pw_one (a q : Pt) : pw [a] q = 0 := rfl
@[simp] theorem pw_nil (q : Pt) : pw [] q = 0 := rfl
@[simp] theorem pw_two (a b q : Pt) (l : List Pt) : pw (a :: b :: l) q = cc a b q + pw (b :: l) q := rfl
theorem es_split (A : List Pt) (x : Pt) (B : List Pt) : es (A ++ x :: B) = es (A ++ [x]) ++ es (x :: B) := by
  induction A with
  | nil => simp
  | cons a A ih =>
    cases A with
    | nil => simp
    | cons b A => simp only [List.cons_append, es_two] at ih ⊢; rw [ih]
theorem pw_split (A : List Pt) (x : Pt) (B : List Pt) (q : Pt) : pw (A ++ x :: B) q = pw (A ++ [x]) q + pw (x :: B) q := by
  induction A with
  | nil => simp
  | cons a A ih =>
    cases A with
    | nil => simp
    | cons b A => simp only [List.cons_append, pw_two] at ih ⊢; rw [ih]; omega
theorem es_snoc (A : List Pt) (x y : Pt) : es (A ++ [x] ++ [y]) = es (A ++ [x]) ++ [(x, y)] := by
  have := es_split A x [y]
  simp only [List.append_assoc, List.cons_append, List.nil_append]
  rw [this]; simp
theorem es_mem {L : List Pt} {e : Pt × Pt} (h : e ∈ es L) : e.1 ∈ L ∧ e.2 ∈ L := by
  induction L with
  | nil => simp at h
  | cons a L ih =>
    cases L with
    | nil => simp at h
    | cons b L =>
      simp only [es_two, List.mem_cons] at h
      rcases h with rfl | h
      · simp
      · have := ih h
        exact ⟨List.mem_cons_of_mem _ this.1, List.mem_cons_of_mem _ this.2⟩
theorem cw_rot (A B : List Pt) (q : Pt) : cw (A ++ B) q = cw (B ++ A) q := by
  cases A with
  | nil => simp
  | cons a A =>
    cases B with
    | nil => simp
    | cons b B =>
      simp only [List.cons_append, cw, List.append_assoc]
      have h1 := pw_split (a :: A) b (B ++ [a]) q
      have h2 := pw_split (b :: B) a (A ++ [b]) q
      simp only [List.cons_append, List.append_assoc] at h1 h2
      rw [h1, h2]; omega
theorem ces_rot (A B : List Pt) (e : Pt × Pt) : e ∈ ces (A ++ B) ↔ e ∈ ces (B ++ A) := by
  cases A with
  | nil => simp
  | cons a A =>
    cases B with
    | nil => simp
    | cons b B =>
      simp only [List.cons_append, ces, List.append_assoc]
      have h1 := es_split (a :: A) b (B ++ [a])
      have h2 := es_split (b :: B) a (A ++ [b])
      simp only [List.cons_append, List.append_assoc] at h1 h2
      rw [h1, h2]; simp only [List.mem_append]; exact Or.comm
theorem ces_out {P : List Pt} {w : Pt} (h : w ∈ P) : ∃ w', (w, w') ∈ ces P := by
  obtain ⟨A, B, rfl⟩ := List.append_of_mem h
  cases B with
  | nil =>
    cases A with
    | nil => exact ⟨w, by simp [ces]⟩
    | cons a A =>
      refine ⟨a, ?_⟩
      rw [ces_rot]; simp [ces]
  | cons b B =>
    refine ⟨b, ?_⟩
    rw [ces_rot]; simp [ces]
/-! moving a point -/
/-! simple polygons -/
structure Simp (P : List Pt) : Prop where
  len : 3 ≤ P.length
  nodup : P.Nodup
  meet : ∀ e ∈ ces P, ∀ f ∈ ces P, e ≠ f → ∀ x, On e.1 e.2 x → On f.1 f.2 x → (x = e.1 ∨ x = e.2) ∧ (x = f.1 ∨ x = f.2)
theorem Simp.rot {A B : List Pt} (h : Simp (A ++ B)) : Simp (B ++ A) where
  len := by have := h.len; simp at *; omega
  nodup := by have := h.nodup; rw [List.nodup_append] at *; exact ⟨this.2.1, this.1, fun a ha b hb e => this.2.2 b hb a ha e.symm⟩
  meet := by
    intro e he f hf
    rw [ces_rot] at he hf
    exact h.meet e he f hf
theorem Simp.vert {P : List Pt} (h : Simp P) {e : Pt × Pt} (he : e ∈ ces P) {w : Pt} (hw : w ∈ P) (ho : On e.1 e.2 w) : w = e.1 ∨ w = e.2 := by
  obtain ⟨w', hf⟩ := ces_out hw
  by_cases h1 : e = (w, w')
  · left; rw [h1]
  · exact (h.meet e he (w, w') hf h1 w ho (On_left _ _)).1
def Rot (P Q : List Pt) : Prop := ∃ A B, P = A ++ B ∧ Q = B ++ A
theorem Rot.symm {P Q : List Pt} (h : Rot P Q) : Rot Q P := by
  obtain ⟨A, B, rfl, rfl⟩ := h
  exact ⟨B, A, rfl, rfl⟩
theorem Rot.cw {P Q : List Pt} (h : Rot P Q) (q : Pt) : cw P q = Geo.cw Q q := by
  obtain ⟨A, B, rfl, rfl⟩ := h
  exact cw_rot A B q
theorem Rot.ces {P Q : List Pt} (h : Rot P Q) (e : Pt × Pt) : e ∈ ces P ↔ e ∈ Geo.ces Q := by
  obtain ⟨A, B, rfl, rfl⟩ := h
  exact ces_rot A B e
theorem Rot.simp {P Q : List Pt} (h : Rot P Q) (hs : Simp P) : Simp Q := by
  obtain ⟨A, B, rfl, rfl⟩ := h
  exact hs.rot
theorem Rot.mem {P Q : List Pt} (h : Rot P Q) (w : Pt) : w ∈ P ↔ w ∈ Q := by
  obtain ⟨A, B, rfl, rfl⟩ := h
  simp [Or.comm]
theorem Rot.length {P Q : List Pt} (h : Rot P Q) : P.length = Q.length := by
  obtain ⟨A, B, rfl, rfl⟩ := h
  simp; omega
theorem Rot.nodup {P Q : List Pt} (h : Rot P Q) (hn : P.Nodup) : Q.Nodup := by
  obtain ⟨A, B, rfl, rfl⟩ := h
  exact (List.perm_append_comm).nodup_iff.1 hn
theorem es_cut {L : List Pt} {u v : Pt} (h : (u, v) ∈ es L) : ∃ A B, L = A ++ u :: v :: B := by
  induction L with
  | nil => simp at h
  | cons a L ih =>
    cases L with
    | nil => simp at h
    | cons b L =>
      simp only [es_two, List.mem_cons, Prod.mk.injEq] at h
      rcases h with ⟨rfl, rfl⟩ | h
      · exact ⟨[], L, rfl⟩
      · obtain ⟨A, B, e⟩ := ih h
        exact ⟨a :: A, B, by rw [e]; rfl⟩
theorem ces_cut {P : List Pt} (hl : 2 ≤ P.length) {u v : Pt} (h : (u, v) ∈ ces P) : ∃ R, Rot P (u :: v :: R) := by
  cases P with
  | nil => simp at hl
  | cons a l =>
    obtain ⟨A, B, e⟩ := es_cut h
    rcases List.eq_nil_or_concat B with rfl | ⟨B', x, rfl⟩
    · cases A with
      | nil =>
        simp only [List.nil_append, List.cons.injEq] at e
        obtain ⟨rfl, e⟩ := e
        cases l with
        | nil => simp at hl
        | cons c l => simp at e
      | cons a' A =>
        simp only [List.cons_append, List.cons.injEq] at e
        obtain ⟨rfl, e⟩ := e
        have e' : l ++ [a] = (A ++ [u]) ++ [v] := by rw [e]; simp
        have h1 := List.append_inj' e' rfl
        obtain ⟨h1, h2⟩ := h1
        simp only [List.cons.injEq, and_true] at h2
        subst h2
        exact ⟨A, a :: A, [u], by rw [h1]; simp, by simp⟩
    · have e' : (a :: l) ++ [a] = (A ++ u :: v :: B') ++ [x] := by simpa using e
      have h1 := (List.append_inj' e' rfl).1
      exact ⟨B' ++ A, A, u :: v :: B', h1, by simp⟩
theorem Simp.ne {P : List Pt} (h : Simp P) {e : Pt × Pt} (he : e ∈ ces P) : e.1 ≠ e.2 := by
  have hl := h.len
  obtain ⟨u, v⟩ := e
  obtain ⟨R, hR⟩ := ces_cut (by omega) he
  have := hR.nodup h.nodup
  simp at this
  intro e
  exact this.1.1 e
/-- two points that see one another -/
def Diag (P : List Pt) (m z : Pt) : Prop :=
  ∀ e ∈ ces P, ∀ x, On e.1 e.2 x → On m z x → (x = e.1 ∨ x = e.2) ∧ (x = m ∨ x = z)
theorem Diag.symm {P : List Pt} {m z : Pt} (h : Diag P m z) : Diag P z m :=
  fun e he x hx hy => ⟨(h e he x hx (On_symm hy)).1, (h e he x hx (On_symm hy)).2.symm⟩
theorem Simp.sub {P Q : List Pt} {m z : Pt} (h : Simp P) (d : Diag P m z) (hl : 3 ≤ Q.length) (hn : Q.Nodup)
    (hs : ∀ e ∈ ces Q, e ∈ ces P ∨ e = (m, z)) : Simp Q where
  len := hl
  nodup := hn
  meet := by
    intro e he f hf hne x hx hy
    rcases hs e he with h1 | rfl <;> rcases hs f hf with h2 | rfl
    · exact h.meet e h1 f h2 hne x hx hy
    · exact d e h1 x hx hy
    · exact (d f h2 x hy hx).symm
    · exact absurd rfl hne
end Geo
end
section
/- Triangles in affine coordinates. -/
namespace Geo
/-- the affine coordinate that is 0 at a and v, and 1 at b -/
def bc (a v b t : Pt) : Rat := cr a v t / cr a v b
theorem bc_mul {a v b : Pt} (h : cr a v b ≠ 0) (t : Pt) : bc a v b t * cr a v b = cr a v t := by unfold bc; grind
theorem cr_rot2 (a v b : Pt) : cr v b a = cr a v b := by unfold cr; grind
theorem bc_a (a v b : Pt) : bc a v b a = 0 := by unfold bc; rw [cr_self1]; grind
theorem bc_v (a v b : Pt) : bc a v b v = 0 := by unfold bc; rw [cr_self2]; grind
theorem bc_b {a v b : Pt} (h : cr a v b ≠ 0) : bc a v b b = 1 := by unfold bc; grind
theorem mul_cancel {x y d : Rat} (h : d ≠ 0) (e : x * d = y * d) : x = y := by grind
theorem bc_sum {a v b : Pt} (h : cr a v b ≠ 0) (t : Pt) : bc v b a t + bc b a v t + bc a v b t = 1 := by
  have h1 := bc_mul h t
  have h2 := bc_mul (a := v) (v := b) (b := a) (by rw [cr_rot2]; exact h) t
  have h3 := bc_mul (a := b) (v := a) (b := v) (by rw [← cr_rot2]; exact h) t
  rw [cr_rot2] at h2
  rw [← cr_rot2] at h3
  apply mul_cancel h
  have : cr v b t + cr b a t + cr a v t = cr a v b := by unfold cr; grind
  grind
theorem bc_rec {a v b : Pt} (h : cr a v b ≠ 0) (t : Pt) :
    t = (bc v b a t * a.1 + bc b a v t * v.1 + bc a v b t * b.1, bc v b a t * a.2 + bc b a v t * v.2 + bc a v b t * b.2) := by
  have h1 := bc_mul h t
  have h2 := bc_mul (a := v) (v := b) (b := a) (by rw [cr_rot2]; exact h) t
  have h3 := bc_mul (a := b) (v := a) (b := v) (by rw [← cr_rot2]; exact h) t
  rw [cr_rot2] at h2
  rw [← cr_rot2] at h3
  obtain ⟨t1, t2⟩ := t
  apply Prod.ext
  · apply mul_cancel h
    have : cr v b (t1, t2) * a.1 + cr b a (t1, t2) * v.1 + cr a v (t1, t2) * b.1 = t1 * cr a v b := by unfold cr; grind
    simp only at *
    grind
  · apply mul_cancel h
    have : cr v b (t1, t2) * a.2 + cr b a (t1, t2) * v.2 + cr a v (t1, t2) * b.2 = t2 * cr a v b := by unfold cr; grind
    simp only at *
    grind
theorem bc_aff (a v b : Pt) {u w x : Pt} {s : Rat} (h : x = (u.1 + s * (w.1 - u.1), u.2 + s * (w.2 - u.2))) :
    bc a v b x = (1 - s) * bc a v b u + s * bc a v b w := by
  unfold bc
  rw [cr_On a v h]
  grind
/-- in the closed triangle -/
def InT (a v b t : Pt) : Prop := 0 ≤ bc v b a t ∧ 0 ≤ bc b a v t ∧ 0 ≤ bc a v b t
theorem On_sub {u w x y : Pt} (h : On u w x) (h2 : On x w y) : On u w y := by
  obtain ⟨s, s0, s1, rfl⟩ := h
  obtain ⟨t, t0, t1, rfl⟩ := h2
  have p1 := Rat.mul_nonneg t0 (show 0 ≤ 1 - s by grind)
  have p2 := Rat.mul_nonneg (show 0 ≤ 1 - t by grind) (show 0 ≤ 1 - s by grind)
  refine ⟨s + t * (1 - s), by grind, by grind, ?_⟩
  apply Prod.ext <;> simp only <;> grind
theorem On_sub' {u w x y : Pt} (h : On u w x) (h2 : On x u y) : On u w y :=
  On_symm (On_sub (On_symm h) h2)
/-- a point of a side -/
theorem On_side {a v b : Pt} (h : cr a v b ≠ 0) {t : Pt} (h0 : bc a v b t = 0) (h1 : 0 ≤ bc v b a t) (h2 : 0 ≤ bc b a v t) : On a v t := by
  have s := bc_sum h t
  have r := bc_rec h t
  refine ⟨bc b a v t, h2, by grind, ?_⟩
  have e : bc v b a t = 1 - bc b a v t := by grind
  rw [h0, e] at r
  rw [r]
  apply Prod.ext <;> simp only <;> grind
theorem exit {a v b : Pt} (_h : cr a v b ≠ 0) {y u : Pt} (ya : 0 < bc v b a y) (ym : 0 ≤ bc b a v y) (yb : 0 < bc a v b y)
    (um : 0 < bc b a v u) (hu : ¬ InT a v b u) :
    ∃ x, On y u x ∧ 0 < bc b a v x ∧ ((bc v b a x = 0 ∧ 0 ≤ bc a v b x) ∨ (bc a v b x = 0 ∧ 0 ≤ bc v b a x)) := by
  have aff : ∀ s : Rat, ∃ x : Pt, x = (y.1 + s * (u.1 - y.1), y.2 + s * (u.2 - y.2)) := fun s => ⟨_, rfl⟩
  -- leave by the side where bc a v b = 0
  have out : ∀ α β : Rat, ∀ A B : Rat, 0 < α → 0 < β → B < 0 → 0 ≤ α * (-B) + β * A →
      ∃ s : Rat, 0 < s ∧ s ≤ 1 ∧ (1 - s) * β + s * B = 0 ∧ 0 ≤ (1 - s) * α + s * A := by
    intro α β A B hα hβ hB hAB
    have hd : 0 < β - B := by grind
    refine ⟨β / (β - B), div_pos hd hβ, div_le1 hd (by grind), by grind, ?_⟩
    have := div_nn hd hAB
    have e : (1 - β / (β - B)) * α + β / (β - B) * A = (α * (-B) + β * A) / (β - B) := by grind
    rw [e]; exact this
  have fin : ∀ s : Rat, 0 < s → s ≤ 1 → 0 < (1 - s) * bc b a v y + s * bc b a v u := by
    intro s s0 s1
    have h1 := Rat.mul_nonneg (show 0 ≤ 1 - s by grind) ym
    have h2 := Rat.mul_pos s0 um
    grind
  by_cases hb : bc a v b u < 0
  · by_cases hab : 0 ≤ bc v b a y * (- bc a v b u) + bc a v b y * bc v b a u
    · obtain ⟨s, s0, s1, e1, e2⟩ := out _ _ _ _ ya yb hb hab
      obtain ⟨x, hx⟩ := aff s
      have h1 := bc_aff a v b hx
      have h2 := bc_aff b a v hx
      have h3 := bc_aff v b a hx
      have := fin s s0 s1
      exact ⟨x, ⟨s, by grind, s1, hx⟩, by grind, Or.inr ⟨by grind, by grind⟩⟩
    · have ha : bc v b a u < 0 := by
        have := Rat.mul_pos ya (show 0 < - bc a v b u by grind)
        by_cases h0 : bc v b a u < 0
        · exact h0
        · have := Rat.mul_nonneg (show 0 ≤ bc a v b y by grind) (show 0 ≤ bc v b a u by grind)
          grind
      obtain ⟨s, s0, s1, e1, e2⟩ := out _ _ (bc a v b u) _ yb ya ha (by grind)
      obtain ⟨x, hx⟩ := aff s
      have h1 := bc_aff a v b hx
      have h2 := bc_aff b a v hx
      have h3 := bc_aff v b a hx
      have := fin s s0 s1
      exact ⟨x, ⟨s, by grind, s1, hx⟩, by grind, Or.inl ⟨by grind, by grind⟩⟩
  · have ha : bc v b a u < 0 := by
      by_cases h0 : bc v b a u < 0
      · exact h0
      · exact absurd ⟨by grind, by grind, by grind⟩ hu
    have := Rat.mul_pos yb (show 0 < - bc v b a u by grind)
    have := Rat.mul_nonneg (show 0 ≤ bc v b a y by grind) (show 0 ≤ bc a v b u by grind)
    obtain ⟨s, s0, s1, e1, e2⟩ := out _ _ (bc a v b u) _ yb ya ha (by grind)
    obtain ⟨x, hx⟩ := aff s
    have h1 := bc_aff a v b hx
    have h2 := bc_aff b a v hx
    have h3 := bc_aff v b a hx
    have := fin s s0 s1
    exact ⟨x, ⟨s, by grind, s1, hx⟩, by grind, Or.inl ⟨by grind, by grind⟩⟩
/-- an edge that comes into a triangle at v, but leaves neither by the sides at v nor ends above a level, stays below the level -/
theorem cap {a v b : Pt} (h : cr a v b ≠ 0) {u w : Pt} {κ : Rat} (k0 : 0 ≤ κ)
    (h1 : ∀ x, On u w x → On a v x → x = a) (h2 : ∀ x, On u w x → On v b x → x = b)
    (hu : InT a v b u → bc b a v u ≤ κ) {y : Pt} (hy : On u w y)
    (ya : 0 < bc v b a y) (ym : 0 ≤ bc b a v y) (yb : 0 < bc a v b y) : bc b a v u ≤ κ := by
  rcases Rat.le_total (a := bc b a v u) (b := κ) with hle | hle
  · exact hle
  · by_cases he : bc b a v u = κ
    · grind
    · have hlt : κ < bc b a v u := by grind
      have hn : ¬ InT a v b u := fun hi => by have := hu hi; grind
      have ha0 := bc_v b a v
      have hb0 := bc_a b a v
      obtain ⟨x, hx, hm, h3 | h3⟩ := exit h ya ym yb (by grind) hn
      · have hr : cr v b a ≠ 0 := by rw [cr_rot2]; exact h
        have := h2 x (On_sub' hy hx) (On_side hr h3.1 (by grind) (by grind))
        rw [this] at hm; grind
      · have := h1 x (On_sub' hy hx) (On_side h h3.1 (by grind) (by grind))
        rw [this] at hm; grind
theorem between_le {A B s κ : Rat} (h0 : 0 ≤ s) (h1 : s ≤ 1) (ha : A ≤ κ) (hb : B ≤ κ) : (1 - s) * A + s * B ≤ κ := by
  have p1 := Rat.mul_nonneg h0 (show 0 ≤ κ - B by grind)
  have p2 := Rat.mul_nonneg (show 0 ≤ 1 - s by grind) (show 0 ≤ κ - A by grind)
  grind
theorem cap2 {a v b : Pt} (h : cr a v b ≠ 0) {u w : Pt} {κ : Rat} (k0 : 0 ≤ κ)
    (h1 : ∀ x, On u w x → On a v x → x = a) (h2 : ∀ x, On u w x → On v b x → x = b)
    (hu : InT a v b u → bc b a v u ≤ κ) (hw : InT a v b w → bc b a v w ≤ κ) {y : Pt} (hy : On u w y)
    (ya : 0 < bc v b a y) (ym : 0 ≤ bc b a v y) (yb : 0 < bc a v b y) : bc b a v y ≤ κ := by
  have c1 := cap h k0 h1 h2 hu hy ya ym yb
  have c2 := cap h k0 (fun x a b => h1 x (On_symm a) b) (fun x a b => h2 x (On_symm a) b) hw (On_symm hy) ya ym yb
  obtain ⟨s, s0, s1, e⟩ := hy
  rw [bc_aff b a v e]
  exact between_le s0 s1 c1 c2
end Geo
end
section
/- Ears and diagonals. -/
namespace Geo
/-! a polygon seen from one of its vertices -/
theorem ces_cons {v a b : Pt} {L M N : List Pt} (hb : L = b :: M) (ha : L = N ++ [a]) (e : Pt × Pt) :
    e ∈ ces (v :: L) ↔ e = (v, b) ∨ e ∈ es L ∨ e = (a, v) := by
  have h1 : ces (v :: L) = (v, b) :: es (L ++ [v]) := by
    rw [hb]; rfl
  rw [h1, ha, es_snoc, ← ha]
  simp [or_comm, or_assoc, or_left_comm]
theorem ces_L {a b : Pt} {L M N : List Pt} (hb : L = b :: M) (ha : L = N ++ [a]) (e : Pt × Pt) :
    e ∈ ces L ↔ e ∈ es L ∨ e = (a, b) := by
  have h1 : ces L = es (L ++ [b]) := by rw [hb]; rfl
  rw [h1, ha, es_snoc, ← ha]
  simp
structure Seen (v : Pt) (L : List Pt) (a b : Pt) : Prop where
  simp : Simp (v :: L)
  head : ∃ M, L = b :: M
  last : ∃ N, L = N ++ [a]
  turn : cr a v b ≠ 0
theorem Seen.side {v a b : Pt} {L : List Pt} (s : Seen v L a b) {e : Pt × Pt} (he : e ∈ es L) :
    (∀ x, On e.1 e.2 x → On a v x → x = a) ∧ (∀ x, On e.1 e.2 x → On v b x → x = b) := by
  obtain ⟨M, hb⟩ := s.head
  obtain ⟨N, ha⟩ := s.last
  have hn := s.simp.nodup
  rw [List.nodup_cons] at hn
  have hm := es_mem he
  have c := ces_cons (v := v) hb ha
  have k := s.simp.meet e ((c e).2 (Or.inr (Or.inl he)))
  constructor
  · intro x h1 h2
    have := k (a, v) ((c _).2 (Or.inr (Or.inr rfl))) (by rintro rfl; exact hn.1 hm.2) x h1 h2
    rcases this with ⟨r, rfl | rfl⟩
    · rfl
    · rcases r with rfl | rfl
      · exact absurd hm.1 hn.1
      · exact absurd hm.2 hn.1
  · intro x h1 h2
    have := k (v, b) ((c _).2 (Or.inl rfl)) (by rintro rfl; exact hn.1 hm.1) x h1 h2
    rcases this with ⟨r, rfl | rfl⟩
    · rcases r with rfl | rfl
      · exact absurd hm.1 hn.1
      · exact absurd hm.2 hn.1
    · rfl
def Empty (v : Pt) (L : List Pt) (a b : Pt) : Prop := ∀ w ∈ L, w ≠ a → w ≠ b → ¬ InT a v b w
theorem Seen.cap {v a b : Pt} {L : List Pt} (s : Seen v L a b) {κ : Rat} (k0 : 0 ≤ κ)
    (hk : ∀ w ∈ L, w ≠ a → w ≠ b → InT a v b w → bc b a v w ≤ κ) {e : Pt × Pt} (he : e ∈ es L) {y : Pt} (hy : On e.1 e.2 y)
    (ya : 0 < bc v b a y) (ym : 0 ≤ bc b a v y) (yb : 0 < bc a v b y) :
    bc b a v e.1 ≤ κ ∧ bc b a v e.2 ≤ κ ∧ bc b a v y ≤ κ := by
  have h := s.side he
  have hm := es_mem he
  have k : ∀ w ∈ L, InT a v b w → bc b a v w ≤ κ := by
    intro w hw hi
    by_cases h1 : w = a
    · rw [h1, bc_v b a v]; exact k0
    · by_cases h2 : w = b
      · rw [h2, bc_a b a v]; exact k0
      · exact hk w hw h1 h2 hi
  exact ⟨Geo.cap s.turn k0 h.1 h.2 (k _ hm.1) hy ya ym yb,
    Geo.cap s.turn k0 (fun x a b => h.1 x (On_symm a) b) (fun x a b => h.2 x (On_symm a) b) (k _ hm.2) (On_symm hy) ya ym yb,
    Geo.cap2 s.turn k0 h.1 h.2 (k _ hm.1) (k _ hm.2) hy ya ym yb⟩
theorem eq_of_bc {a v b x y : Pt} (h : cr a v b ≠ 0) (h1 : bc v b a x = bc v b a y) (h2 : bc b a v x = bc b a v y) : x = y := by
  have s1 := bc_sum h x
  have s2 := bc_sum h y
  rw [bc_rec h x, bc_rec h y, h1, h2, show bc a v b x = bc a v b y by grind]
end Geo
end
section
/- An empty ear is clear; diagonals exist. -/
namespace Geo
theorem Seen.nadj {v a b : Pt} {L : List Pt} (s : Seen v L a b) (hl : 3 ≤ L.length) :
    (a, b) ∉ es L ∧ (b, a) ∉ es L := by
  obtain ⟨M, hb⟩ := s.head
  obtain ⟨N, ha⟩ := s.last
  have hn := s.simp.nodup
  rw [List.nodup_cons] at hn
  have hn := hn.2
  constructor
  · intro h
    obtain ⟨A, B, e⟩ := es_cut h
    rw [e] at hn hb
    cases A with
    | nil => simp at hb hn; grind
    | cons x A => simp at hb hn; grind
  · intro h
    obtain ⟨A, B, e⟩ := es_cut h
    rw [e] at hn hb
    cases A with
    | cons x A => simp at hb hn; grind
    | nil =>
      rcases List.eq_nil_or_concat B with rfl | ⟨B', x, rfl⟩
      · rw [e] at hl; simp at hl
      · rw [e] at ha
        have e1 : ([b, a] ++ B') ++ [x] = N ++ [a] := by simpa using ha
        have := (List.append_inj' e1 rfl).2
        simp at this hn
        grind
theorem On_line {a v b u w : Pt} (h : cr a v b ≠ 0) (u0 : bc b a v u = 0) (w0 : bc b a v w = 0) {p : Pt} (p0 : bc b a v p = 0)
    (h1 : bc v b a u ≤ bc v b a p) (h2 : bc v b a p ≤ bc v b a w) (h3 : bc v b a u < bc v b a w) : On u w p := by
  have hd : 0 < bc v b a w - bc v b a u := by grind
  obtain ⟨x, hx⟩ : ∃ x : Pt, x = (u.1 + ((bc v b a p - bc v b a u) / (bc v b a w - bc v b a u)) * (w.1 - u.1), u.2 + ((bc v b a p - bc v b a u) / (bc v b a w - bc v b a u)) * (w.2 - u.2)) := ⟨_, rfl⟩
  have e1 := bc_aff v b a hx
  have e2 := bc_aff b a v hx
  have : p = x := eq_of_bc h (by grind) (by grind)
  exact ⟨(bc v b a p - bc v b a u) / (bc v b a w - bc v b a u), div_nn hd (by grind), div_le1 hd (by grind), this.trans hx⟩
/-- no side of the polygon comes into an empty ear -/
theorem Seen.clear {v a b : Pt} {L : List Pt} (s : Seen v L a b) (em : Empty v L a b) (hl : 3 ≤ L.length)
    {e : Pt × Pt} (he : e ∈ ces (v :: L)) {y : Pt} (hy : On e.1 e.2 y)
    (ya : 0 < bc v b a y) (ym : 0 ≤ bc b a v y) (yb : 0 < bc a v b y) : False := by
  obtain ⟨M, hb⟩ := s.head
  obtain ⟨N, ha⟩ := s.last
  have hce := ces_cons (v := v) hb ha
  have hr : cr v b a ≠ 0 := by rw [cr_rot2]; exact s.turn
  have a1 := bc_b hr
  have a2 := bc_v b a v
  have a3 := bc_a a v b
  have b1 := bc_v v b a
  have b2 := bc_a b a v
  have b3 := bc_b s.turn
  have v1 := bc_a v b a
  have v3 := bc_v a v b
  rcases (hce e).1 he with rfl | h | rfl
  · obtain ⟨t, t0, t1, hx⟩ := hy
    have := bc_aff v b a hx
    grind
  · obtain ⟨c1, c2, c3⟩ := s.cap (κ := 0) (by grind) (fun w hw h1 h2 h3 => absurd h3 (em w hw h1 h2)) h hy ya ym yb
    have hm := es_mem h
    have y0 : bc b a v y = 0 := by grind
    obtain ⟨t, t0, t1, hx⟩ := id hy
    have ea := bc_aff v b a hx
    have eb := bc_aff a v b hx
    have ec := bc_aff b a v hx
    have su := bc_sum s.turn e.1
    have sw := bc_sum s.turn e.2
    have sy := bc_sum s.turn y
    -- an end within the open chord is impossible
    have noend : ∀ w ∈ L, bc b a v w = 0 → 0 < bc v b a w → 0 < bc a v b w → False := by
      intro w hw w0 wa wb
      refine em w hw ?_ ?_ ⟨by grind, by grind, by grind⟩
      · rintro rfl; grind
      · rintro rfl; grind
    have hu0 : ∀ (t : Rat), 0 ≤ t → t ≤ 1 → (1 - t) * bc b a v e.1 + t * bc b a v e.2 = 0 →
        t = 0 ∨ t = 1 ∨ (bc b a v e.1 = 0 ∧ bc b a v e.2 = 0) := by
      intro t t0 t1 h0
      by_cases h1 : t = 0
      · exact Or.inl h1
      by_cases h2 : t = 1
      · exact Or.inr (Or.inl h2)
      right; right
      have p1 := Rat.mul_nonneg t0 (show 0 ≤ - bc b a v e.2 by grind)
      have p2 := Rat.mul_nonneg (show 0 ≤ 1 - t by grind) (show 0 ≤ - bc b a v e.1 by grind)
      have z1 : t * bc b a v e.2 = 0 := by grind
      have z2 : (1 - t) * bc b a v e.1 = 0 := by grind
      constructor <;> grind
    rcases hu0 t t0 t1 (by grind) with h0 | h1 | ⟨u0, w0⟩
    · exact noend e.1 hm.1 (by grind) (by grind) (by grind)
    · exact noend e.2 hm.2 (by grind) (by grind) (by grind)
    · have ku : bc v b a e.1 ≤ 0 ∨ 1 ≤ bc v b a e.1 := by
        by_cases h1 : 0 < bc v b a e.1
        · by_cases h2 : 0 < bc a v b e.1
          · exact absurd h2 (fun h2 => noend e.1 hm.1 u0 h1 h2)
          · grind
        · grind
      have kw : bc v b a e.2 ≤ 0 ∨ 1 ≤ bc v b a e.2 := by
        by_cases h1 : 0 < bc v b a e.2
        · by_cases h2 : 0 < bc a v b e.2
          · exact absurd h2 (fun h2 => noend e.2 hm.2 w0 h1 h2)
          · grind
        · grind
      have hab : On e.1 e.2 a ∧ On e.1 e.2 b := by
        rcases ku with ku | ku <;> rcases kw with kw | kw
        · have := between_le t0 t1 ku kw; grind
        · exact ⟨On_line s.turn u0 w0 a2 (by grind) (by grind) (by grind), On_line s.turn u0 w0 b2 (by grind) (by grind) (by grind)⟩
        · exact ⟨On_symm (On_line s.turn w0 u0 a2 (by grind) (by grind) (by grind)), On_symm (On_line s.turn w0 u0 b2 (by grind) (by grind) (by grind))⟩
        · have := between_le (A := - bc v b a e.1) (B := - bc v b a e.2) (κ := -1) t0 t1 (by grind) (by grind); grind
      have ha' : a ∈ v :: L := by rw [ha]; simp
      have hb' : b ∈ v :: L := by rw [hb]; simp
      have r1 := s.simp.vert he ha' hab.1
      have r2 := s.simp.vert he hb' hab.2
      have nab : a ≠ b := by rintro rfl; grind
      have nad := s.nadj hl
      obtain ⟨e1, e2⟩ := e
      simp only at r1 r2
      rcases r1 with rfl | rfl <;> rcases r2 with rfl | rfl
      · exact nab rfl
      · exact nad.1 h
      · exact nad.2 h
      · exact nab rfl
  · obtain ⟨t, t0, t1, hx⟩ := hy
    have := bc_aff a v b hx
    grind
end Geo
end
section
/- Every simple polygon has ears. -/
namespace Geo
def Off (P : List Pt) (q : Pt) : Prop := ∀ e ∈ ces P, ¬ On e.1 e.2 q
theorem On_pos {A B t : Rat} (t0 : 0 ≤ t) (t1 : t ≤ 1) (ha : 0 < A) (hb : 0 < B) : 0 < (1 - t) * A + t * B := by
  by_cases h : t = 0
  · subst h; grind
  · have p1 := Rat.mul_pos (show 0 < t by grind) hb
    have p2 := Rat.mul_nonneg (show 0 ≤ 1 - t by grind) (show 0 ≤ A by grind)
    grind
/-- the middle of a triangle -/
def mid (a v b : Pt) : Pt := ((a.1 + v.1 + b.1) / 3, (a.2 + v.2 + b.2) / 3)
/-! the least vertex -/
end Geo
end
section
/- The ear theorem. -/
namespace Geo
/-- an ear that is good: what is left is outside of it -/
structure Good (P : List Pt) (v : Pt) (L : List Pt) (a b : Pt) : Prop where
  rot : Rot P (v :: L)
  seen : Seen v L a b
  empty : Empty v L a b
  out : cw L v = 0
end Geo
end
section
/- A simple polygon winds about each point off it 0 times or s times, s being 1 or -1. -/
namespace Geo
theorem Rot.off {P Q : List Pt} (h : Rot P Q) {q : Pt} (o : Off P q) : Off Q q := fun e he => o e ((h.ces e).2 he)
/-- off the polygon and in the ear's triangle: strictly within its two sides -/
theorem Good.within {P L : List Pt} {v a b : Pt} (g : Good P v L a b) {q : Pt} (o : Off P q) (h : InT a v b q) : 0 < bc v b a q ∧ 0 ≤ bc b a v q ∧ 0 < bc a v b q := by
  obtain ⟨M, hb⟩ := g.seen.head
  obtain ⟨N, ha⟩ := g.seen.last
  have hr1 : cr v b a ≠ 0 := by rw [cr_rot2]; exact g.seen.turn
  have o2 := g.rot.off o
  obtain ⟨h1, h2, h3⟩ := h
  refine ⟨?_, h2, ?_⟩
  · rcases (by grind : bc v b a q = 0 ∨ 0 < bc v b a q) with e | e
    · exact absurd (On_side hr1 e h2 h3) (o2 (v, b) ((ces_cons hb ha _).2 (Or.inl rfl)))
    · exact e
  · rcases (by grind : bc a v b q = 0 ∨ 0 < bc a v b q) with e | e
    · exact absurd (On_side g.seen.turn e h1 h2) (o2 (a, v) ((ces_cons hb ha _).2 (Or.inr (Or.inr rfl))))
    · exact e
end Geo
end
section
/- From the grid to the plane: what the program tests of whole numbers, told of points with rational coordinates. -/
namespace Geo
def cz (p : IP) : Pt := ((p.1 : Rat), (p.2 : Rat))
theorem cz_inj {p q : IP} : cz p = cz q ↔ p = q := by
  unfold cz
  constructor
  · intro h
    simp only [Prod.mk.injEq] at h
    exact Prod.ext (Rat.intCast_inj.1 h.1) (Rat.intCast_inj.1 h.2)
  · rintro rfl; rfl
theorem cz_cr (a b c : IP) : cr (cz a) (cz b) (cz c) = ((crI a b c : Int) : Rat) := by
  unfold cr crI cz
  simp only [Rat.intCast_sub, Rat.intCast_mul]
theorem cr_pos (a b c : IP) : 0 < cr (cz a) (cz b) (cz c) ↔ 0 < crI a b c := by rw [cz_cr]; exact_mod_cast Iff.rfl
theorem cr_neg (a b c : IP) : cr (cz a) (cz b) (cz c) < 0 ↔ crI a b c < 0 := by rw [cz_cr]; exact_mod_cast Iff.rfl
theorem cr_nil (a b c : IP) : cr (cz a) (cz b) (cz c) = 0 ↔ crI a b c = 0 := by rw [cz_cr]; exact_mod_cast Iff.rfl
theorem cz_le1 {a b : IP} : (cz a).1 ≤ (cz b).1 ↔ a.1 ≤ b.1 := Rat.intCast_le_intCast
theorem cz_le2 {a b : IP} : (cz a).2 ≤ (cz b).2 ↔ a.2 ≤ b.2 := Rat.intCast_le_intCast
theorem cz_lt2 {a b : IP} : (cz a).2 < (cz b).2 ↔ a.2 < b.2 := Rat.intCast_lt_intCast
theorem wsd_cc (a b q : IP) : cc (cz a) (cz b) (cz q) = wsd a b q := by
  unfold cc wsd
  simp only [cz_le2, cz_lt2, cr_pos, cr_neg]
  by_cases h1 : a.2 ≤ q.2 ∧ q.2 < b.2 ∧ 0 < crI a b q
  · rw [if_pos h1, if_pos ⟨h1.1, by omega, by omega⟩]
  · rw [if_neg h1, if_neg (show ¬ (a.2 ≤ q.2 ∧ b.2 > q.2 ∧ crI a b q > 0) from fun h => h1 ⟨h.1, by omega, by omega⟩)]
    by_cases h2 : b.2 ≤ q.2 ∧ q.2 < a.2 ∧ crI a b q < 0
    · rw [if_pos h2, if_pos (show a.2 > q.2 ∧ b.2 ≤ q.2 ∧ crI a b q < 0 from ⟨by omega, h2.1, h2.2.2⟩)]
    · rw [if_neg h2, if_neg (show ¬ (a.2 > q.2 ∧ b.2 ≤ q.2 ∧ crI a b q < 0) from fun h => h2 ⟨h.2.1, by omega, h.2.2⟩)]
/-- between, by coordinates -/
theorem On_coord {u v x : Pt} (hc : cr u v x = 0) (h1 : (u.1 ≤ x.1 ∧ x.1 ≤ v.1) ∨ (v.1 ≤ x.1 ∧ x.1 ≤ u.1)) (h2 : (u.2 ≤ x.2 ∧ x.2 ≤ v.2) ∨ (v.2 ≤ x.2 ∧ x.2 ≤ u.2)) : On u v x := by
  rcases (by grind : u.2 < v.2 ∨ v.2 < u.2 ∨ u.2 = v.2) with g | g | g
  · exact On_ofY hc g (by grind) (by grind)
  · exact On_symm (On_ofY (by rw [cr_anti, hc]; grind) g (by grind) (by grind))
  · have x2 : x.2 = u.2 := by grind
    rcases (by grind : u.1 < v.1 ∨ v.1 < u.1 ∨ u.1 = v.1) with k | k | k
    · have hp : 0 < v.1 - u.1 := by grind
      refine ⟨(x.1 - u.1) / (v.1 - u.1), div_nn hp (by grind), div_le1 hp (by grind), Prod.ext ?_ ?_⟩ <;> simp only <;> grind
    · have hp : 0 < u.1 - v.1 := by grind
      refine ⟨(u.1 - x.1) / (u.1 - v.1), div_nn hp (by grind), div_le1 hp (by grind), Prod.ext ?_ ?_⟩ <;> simp only <;> grind
    · have : x = u := Prod.ext (by grind) x2
      rw [this]; exact On_left u v
theorem On_X {u v x : Pt} (h : On u v x) : (u.1 ≤ x.1 ∧ x.1 ≤ v.1) ∨ (v.1 ≤ x.1 ∧ x.1 ≤ u.1) := by
  obtain ⟨t, t0, t1, e⟩ := h
  by_cases g : u.1 ≤ v.1
  · left
    have p1 := Rat.mul_nonneg t0 (show 0 ≤ v.1 - u.1 by grind)
    have p2 := Rat.mul_nonneg (show 0 ≤ 1 - t by grind) (show 0 ≤ v.1 - u.1 by grind)
    rw [e]; simp only; grind
  · right
    have p1 := Rat.mul_nonneg t0 (show 0 ≤ u.1 - v.1 by grind)
    have p2 := Rat.mul_nonneg (show 0 ≤ 1 - t by grind) (show 0 ≤ u.1 - v.1 by grind)
    rw [e]; simp only; grind
theorem bet_On (a b q : IP) : BetI a b q ↔ On (cz a) (cz b) (cz q) := by
  constructor
  · rintro ⟨h1, h2, h3⟩
    refine On_coord ((cr_nil a b q).2 h1) ?_ ?_
    · simp only [cz_le1]; omega
    · simp only [cz_le2]; omega
  · intro h
    have h1 := (cr_nil a b q).1 (On_cr h)
    have h2 := On_X h
    have h3 := On_Y h
    simp only [cz_le1] at h2
    simp only [cz_le2] at h3
    exact ⟨h1, by omega, by omega⟩
/-- a point of the line of two points, by its number along it -/
theorem on_num {a b c : Pt} (h : a ≠ b) (hc : cr a b c = 0) : ∃ t : Rat, c = (a.1 + t * (b.1 - a.1), a.2 + t * (b.2 - a.2)) := by
  by_cases g : b.1 - a.1 = 0
  · have k : b.2 - a.2 ≠ 0 := fun k => h (Prod.ext (by grind) (by grind))
    refine ⟨(c.2 - a.2) / (b.2 - a.2), Prod.ext ?_ ?_⟩ <;> unfold cr at hc <;> simp only <;> grind
  · refine ⟨(c.1 - a.1) / (b.1 - a.1), Prod.ext ?_ ?_⟩ <;> unfold cr at hc <;> simp only <;> grind
theorem num_inj {a b : Pt} (h : a ≠ b) {s t : Rat} (e : ((a.1 + s * (b.1 - a.1), a.2 + s * (b.2 - a.2)) : Pt) = (a.1 + t * (b.1 - a.1), a.2 + t * (b.2 - a.2))) : s = t := by
  simp only [Prod.mk.injEq] at e
  by_cases g : b.1 - a.1 = 0
  · have k : b.2 - a.2 ≠ 0 := fun k => h (Prod.ext (by grind) (by grind))
    grind
  · grind
/-- two segments on one line that have a point in common: an end of one lies on the other -/
theorem meet_line {a b c d x : Pt} (h : a ≠ b) (hc : cr a b c = 0) (hd : cr a b d = 0) (h1 : On a b x) (h2 : On c d x) : On a b c ∨ On a b d ∨ On c d a := by
  obtain ⟨s, es⟩ := on_num h hc
  obtain ⟨t, et⟩ := on_num h hd
  obtain ⟨r, r0, r1, er⟩ := h1
  obtain ⟨m, m0, m1, em⟩ := h2
  have e : r = (1 - m) * s + m * t := by
    apply num_inj h
    rw [← er, em, es, et]
    apply Prod.ext <;> simp only <;> grind
  by_cases s1 : 0 ≤ s ∧ s ≤ 1
  · exact Or.inl ⟨s, s1.1, s1.2, es⟩
  by_cases t1 : 0 ≤ t ∧ t ≤ 1
  · exact Or.inr (Or.inl ⟨t, t1.1, t1.2, et⟩)
  right; right
  have p1 := @Rat.mul_nonneg m
  have key : ∀ {s t m : Rat}, 0 ≤ m → m ≤ 1 → s < 0 → t < 0 → (1 - m) * s + m * t < 0 := by
    intro s t m m0 m1 hs ht
    have := On_pos m0 m1 (show 0 < -s by grind) (show 0 < -t by grind)
    grind
  rcases (by grind : s < 0 ∨ 1 < s) with g | g
  · rcases (by grind : t < 0 ∨ 1 < t) with k | k
    · have := key m0 m1 g k; grind
    · have hp : 0 < t - s := by grind
      refine ⟨-s / (t - s), div_nn hp (by grind), div_le1 hp (by grind), ?_⟩
      rw [es, et]; apply Prod.ext <;> simp only <;> grind
  · rcases (by grind : t < 0 ∨ 1 < t) with k | k
    · have hp : 0 < s - t := by grind
      refine ⟨s / (s - t), div_nn hp (by grind), div_le1 hp (by grind), ?_⟩
      rw [es, et]; apply Prod.ext <;> simp only <;> grind
    · have := On_pos m0 m1 (show 0 < s - 1 by grind) (show 0 < t - 1 by grind)
      grind
theorem cr_On_comb {a b c d x : Pt} {m : Rat} (e : x = (c.1 + m * (d.1 - c.1), c.2 + m * (d.2 - c.2))) : cr a b x = (1 - m) * cr a b c + m * cr a b d := by
  rw [e]; unfold cr; simp only; grind
/-- what meets -/
def MeetR (a b c d : Pt) : Prop := On a b c ∨ On a b d ∨ On c d a ∨ On c d b ∨ (((cr a b c < 0 ∧ 0 < cr a b d) ∨ (0 < cr a b c ∧ cr a b d < 0)) ∧ ((cr c d a < 0 ∧ 0 < cr c d b) ∨ (0 < cr c d a ∧ cr c d b < 0)))
theorem half {a b c d x : Pt} (h : a ≠ b) (h1 : On a b x) (h2 : On c d x) : On a b c ∨ On a b d ∨ On c d a ∨ ((cr a b c < 0 ∧ 0 < cr a b d) ∨ (0 < cr a b c ∧ cr a b d < 0)) := by
  obtain ⟨m, m0, m1, em⟩ := h2
  have e := cr_On_comb (a := a) (b := b) em
  rw [On_cr h1] at e
  by_cases hc : cr a b c = 0
  · by_cases hd : cr a b d = 0
    · rcases meet_line h hc hd h1 ⟨m, m0, m1, em⟩ with g | g | g
      · exact Or.inl g
      · exact Or.inr (Or.inl g)
      · exact Or.inr (Or.inr (Or.inl g))
    · have hm : m = 0 := by grind
      have : x = c := by rw [em, hm]; apply Prod.ext <;> simp only <;> grind
      exact Or.inl (this ▸ h1)
  · by_cases hd : cr a b d = 0
    · have hm : m = 1 := by grind
      have : x = d := by rw [em, hm]; apply Prod.ext <;> simp only <;> grind
      exact Or.inr (Or.inl (this ▸ h1))
    · right; right; right
      rcases (by grind : cr a b c < 0 ∨ 0 < cr a b c) with g | g
      · rcases (by grind : cr a b d < 0 ∨ 0 < cr a b d) with k | k
        · have := On_pos m0 m1 (show 0 < -cr a b c by grind) (show 0 < -cr a b d by grind); grind
        · exact Or.inl ⟨g, k⟩
      · rcases (by grind : cr a b d < 0 ∨ 0 < cr a b d) with k | k
        · exact Or.inr ⟨g, k⟩
        · have := On_pos m0 m1 g k; grind
theorem meets_of {a b c d x : Pt} (h : a ≠ b) (k : c ≠ d) (h1 : On a b x) (h2 : On c d x) : MeetR a b c d := by
  rcases half h h1 h2 with g | g | g | g
  · exact Or.inl g
  · exact Or.inr (Or.inl g)
  · exact Or.inr (Or.inr (Or.inl g))
  rcases half k h2 h1 with l | l | l | l
  · exact Or.inr (Or.inr (Or.inl l))
  · exact Or.inr (Or.inr (Or.inr (Or.inl l)))
  · exact Or.inl l
  exact Or.inr (Or.inr (Or.inr (Or.inr ⟨g, l⟩)))
theorem meetI_R (a b c d : IP) : MeetI a b c d ↔ MeetR (cz a) (cz b) (cz c) (cz d) := by
  unfold MeetI MeetR DivI
  simp only [bet_On, cr_pos, cr_neg]
/-- neighbours: a common point other than the common end would fold one over the other -/
theorem fold_of {a b c x : Pt} (h1 : On a b x) (h2 : On b c x) (hx : x ≠ b) : On a b c ∨ On b c a := by
  obtain ⟨t, t0, t1, e⟩ := On_symm h1
  obtain ⟨s, s0, s1, f⟩ := h2
  have tp : t ≠ 0 := by rintro rfl; apply hx; rw [e]; apply Prod.ext <;> simp only <;> grind
  have sp : s ≠ 0 := by rintro rfl; apply hx; rw [f]; apply Prod.ext <;> simp only <;> grind
  have tp' : 0 < t := by grind
  have sp' : 0 < s := by grind
  have k1 : t * (a.1 - b.1) = s * (c.1 - b.1) := by have := congrArg Prod.fst (e.symm.trans f); simp only at this; grind
  have k2 : t * (a.2 - b.2) = s * (c.2 - b.2) := by have := congrArg Prod.snd (e.symm.trans f); simp only at this; grind
  by_cases g : t ≤ s
  · left
    refine On_symm ⟨t / s, div_nn sp' t0, div_le1 sp' g, Prod.ext ?_ ?_⟩ <;> simp only <;> grind
  · right
    refine ⟨s / t, div_nn tp' s0, div_le1 tp' (by grind), Prod.ext ?_ ?_⟩ <;> simp only <;> grind
end Geo
end
section
/- A polygon that the program finds simple is simple in the plane; its winding is the one that is counted. -/
namespace Geo
def czL (P : List IP) : List Pt := P.map cz
theorem czL_len (P : List IP) : (czL P).length = P.length := by simp [czL]
theorem es_get (L : List Pt) (e : Pt × Pt) : e ∈ es L ↔ ∃ i, i + 1 < L.length ∧ e = (L.getD i (0, 0), L.getD (i + 1) (0, 0)) := by
  induction L with
  | nil => simp [es]
  | cons a l ih =>
    cases l with
    | nil => simp [es]
    | cons b l =>
      rw [es_two, List.mem_cons, ih]
      constructor
      · rintro (h | ⟨i, hi, h⟩)
        · exact ⟨0, by simp, h⟩
        · exact ⟨i + 1, by simp at hi ⊢; omega, h⟩
      · rintro ⟨i, hi, h⟩
        cases i with
        | zero => exact Or.inl h
        | succ i => exact Or.inr ⟨i, by simp at hi ⊢; omega, h⟩
theorem pw_get (L : List Pt) (q : Pt) : pw L q = sumN (fun i => cc (L.getD i (0, 0)) (L.getD (i + 1) (0, 0)) q) (L.length - 1) := by
  induction L with
  | nil => rfl
  | cons a l ih =>
    cases l with
    | nil => rfl
    | cons b l =>
      rw [pw_two, ih]
      show _ = sumN _ (l.length + 1)
      rw [sumN_head]
      rfl
theorem closed_get (P : List IP) (hP : P ≠ []) : ∃ a l, czL P = a :: l ∧ ∀ i, i ≤ P.length → (a :: (l ++ [a])).getD i (0, 0) = cz (nth P i) := by
  cases P with
  | nil => exact absurd rfl hP
  | cons p P =>
    refine ⟨cz p, P.map cz, rfl, fun i hi => ?_⟩
    have key : ∀ j, j < (p :: P).length → (cz p :: (P.map cz ++ [cz p])).getD j (0, 0) = cz ((p :: P).getD j (0, 0)) := by
      intro j hj
      rw [← List.cons_append]
      simp only [List.getD]
      rw [List.getElem?_append_left (by simpa using hj), ← List.map_cons, List.getElem?_map, List.getElem?_eq_getElem hj]
      rfl
    unfold nth
    by_cases h : i < (p :: P).length
    · rw [Nat.mod_eq_of_lt h]; exact key i h
    · have : i = (p :: P).length := by omega
      subst this
      rw [Nat.mod_self]
      have h2 : (cz p :: (P.map cz ++ [cz p])).getD (p :: P).length (0, 0) = cz p := by
        rw [← List.cons_append]
        simp only [List.getD]
        rw [List.getElem?_append_right (by simp)]
        simp
      rw [h2]; rfl
theorem ces_get {P : List IP} (hP : P ≠ []) (e : Pt × Pt) : e ∈ ces (czL P) ↔ ∃ i, i < P.length ∧ e = (cz (nth P i), cz (nth P (i + 1))) := by
  obtain ⟨a, l, h, k⟩ := closed_get P hP
  have hl : (a :: (l ++ [a])).length = P.length + 1 := by
    have := congrArg List.length h
    rw [czL_len] at this
    simp at this ⊢; omega
  rw [h]
  show e ∈ es (a :: (l ++ [a])) ↔ _
  rw [es_get, hl]
  constructor
  · rintro ⟨i, hi, he⟩; exact ⟨i, by omega, by rw [he, k i (by omega), k (i + 1) (by omega)]⟩
  · rintro ⟨i, hi, he⟩; exact ⟨i, by omega, by rw [he, k i (by omega), k (i + 1) (by omega)]⟩
theorem cw_cz {P : List IP} (hP : P ≠ []) (q : IP) : cw (czL P) (cz q) = wndI P q := by
  obtain ⟨a, l, h, k⟩ := closed_get P hP
  have hl : (a :: (l ++ [a])).length = P.length + 1 := by
    have := congrArg List.length h
    rw [czL_len] at this
    simp at this ⊢; omega
  rw [h]
  show pw (a :: (l ++ [a])) (cz q) = _
  rw [pw_get, hl]
  unfold wndI
  exact sumN_congr (fun i hi => by rw [k i (by omega), k (i + 1) (by omega), wsd_cc])
theorem off_cz {P : List IP} (hP : P ≠ []) {q : IP} : Off (czL P) (cz q) ↔ ¬ OnI P q := by
  unfold Off OnI
  constructor
  · rintro h ⟨i, hi, hb⟩
    exact h _ ((ces_get hP _).2 ⟨i, hi, rfl⟩) ((bet_On _ _ _).1 hb)
  · intro h e he ho
    obtain ⟨i, hi, rfl⟩ := (ces_get hP e).1 he
    exact h ⟨i, hi, (bet_On _ _ _).2 ho⟩
theorem nbr {a b c : IP} (h1 : ¬ BetI a b c) (h2 : ¬ BetI b c a) {x : Pt} (hx : On (cz a) (cz b) x) (hy : On (cz b) (cz c) x) : x = cz b := by
  by_cases h : x = cz b
  · exact h
  · rcases fold_of hx hy h with g | g
    · exact absurd ((bet_On _ _ _).2 g) h1
    · exact absurd ((bet_On _ _ _).2 g) h2
theorem simp_cz {P : List IP} (h3 : 3 ≤ P.length) (h : SimpI P) : Simp (czL P) where
  len := by rw [czL_len]; exact h3
  nodup := by
    unfold List.Nodup
    rw [List.pairwise_iff_getElem]
    intro i j hi hj hij e
    rw [czL_len] at hi hj
    have cg : ∀ t (ht : t < (czL P).length) (ht2 : t < P.length), (czL P)[t] = cz P[t] := fun t ht ht2 => by simp [czL]
    rw [cg i _ hi, cg j _ hj, cz_inj] at e
    have e2 : nth P i = nth P j := by
      unfold nth
      rw [Nat.mod_eq_of_lt hi, Nat.mod_eq_of_lt hj]
      simpa [List.getD, hi, hj] using e
    obtain ⟨g1, _, _, g4⟩ := h i hi
    by_cases c1 : j = i + 1
    · rw [c1] at e2; exact g1 e2
    · by_cases c2 : i = 0 ∧ j = P.length - 1
      · obtain ⟨k1, _⟩ := h j hj
        apply k1
        rw [← e2, c2.1, c2.2, show P.length - 1 + 1 = 0 + P.length by omega, nth_per]
      · apply g4 j (by omega) hj c2
        left
        rw [← e2]
        exact ⟨by unfold crI; grind, by omega, by omega⟩
  meet := by
    have hP : P ≠ [] := by rintro rfl; simp at h3
    have key : ∀ i j, i < j → j < P.length → ∀ x, On (cz (nth P i)) (cz (nth P (i + 1))) x → On (cz (nth P j)) (cz (nth P (j + 1))) x →
        (x = cz (nth P i) ∨ x = cz (nth P (i + 1))) ∧ (x = cz (nth P j) ∨ x = cz (nth P (j + 1))) := by
      intro i j hij hj x hx hy
      obtain ⟨g1, g2, g3, g4⟩ := h i (by omega)
      obtain ⟨k1, k2, k3, _⟩ := h j hj
      by_cases c1 : j = i + 1
      · subst c1
        have := nbr g2 g3 hx hy
        exact ⟨Or.inr this, Or.inl this⟩
      · by_cases c2 : i = 0 ∧ j = P.length - 1
        · have e0 : nth P (j + 1) = nth P i := by rw [c2.1, c2.2, show P.length - 1 + 1 = 0 + P.length by omega, nth_per]
          have e1 : nth P (j + 2) = nth P (i + 1) := by rw [c2.1, c2.2, show P.length - 1 + 2 = 0 + 1 + P.length by omega, nth_per]
          rw [e0, e1] at k2 k3
          rw [e0] at hy
          have := nbr k2 k3 hy hx
          rw [e0]
          exact ⟨Or.inl this, Or.inr this⟩
        · exact absurd ((meetI_R _ _ _ _).2 (meets_of (fun e => g1 (cz_inj.1 e)) (fun e => k1 (cz_inj.1 e)) hx hy)) (g4 j (by omega) hj c2)
    intro e he f hf hne x hx hy
    obtain ⟨i, hi, rfl⟩ := (ces_get hP e).1 he
    obtain ⟨j, hj, rfl⟩ := (ces_get hP f).1 hf
    rcases Nat.lt_trichotomy i j with g | g | g
    · exact key i j g hj x hx hy
    · subst g; exact absurd rfl hne
    · have := key j i g hi x hy hx
      exact ⟨this.2, this.1⟩
end Geo
end
section
/- What the reference's polygon functions compute. -/
namespace Pl
open Go Geo Pm
/-- twice the area, as a sum of cross products -/
def shoe (a b : IP) : Int := a.1 * b.2 - a.2 * b.1
theorem shoe_area (P : List IP) : sumN (fun i => shoe (nth P i) (nth P (i + 1))) P.length = areaI P := by
  have h := sum_cyc (P := P) (fun s => s.1 * s.2)
  unfold areaI
  rw [← sumN_neg]
  have h2 : sumN (fun i => shoe (nth P i) (nth P (i + 1))) P.length = sumN (fun i => -trap (nth P i) (nth P (i + 1)) + ((nth P (i + 1)).1 * (nth P (i + 1)).2 - (nth P i).1 * (nth P i).2)) P.length :=
    sumN_congr (fun i _ => by unfold shoe trap; grind)
  rw [h2, sumN_add, h, Int.add_zero]
end Pl
end
section
/- The normal form: what the program computes. -/
namespace Pl
open Go Geo Pm
/-- the vertices where the polygon turns -/
def turnsAt (P : List IP) (i : Nat) : Bool := crI (nth P (i + P.length - 1)) (nth P i) (nth P (i + 1)) != 0
def corn (P : List IP) : List IP := ((List.range P.length).filter (turnsAt P)).map (nth P)
end Pl
end
section
/- A vertex in the middle of a straight piece may be left out: nothing changes. -/
namespace Geo
theorem inv_lt1 {t : Rat} (h : 1 < t) : 0 < 1 / t ∧ 1 / t < 1 ∧ (1 / t) * t = 1 := by
  have h0 : 0 < t := by grind
  have e : (1 / t) * t = 1 := by grind
  have p := div_pos (a := 1) h0 (by grind)
  refine ⟨p, ?_, e⟩
  by_cases hc : 1 / t < 1
  · exact hc
  · exfalso
    have h1 : 1 ≤ 1 / t := by grind
    have := Rat.mul_nonneg (show 0 ≤ 1 / t - 1 by grind) (show 0 ≤ t by grind)
    grind
/-- neither end folds over the other: the vertex lies between -/
theorem between_of {a v b : Pt} (hav : a ≠ v) (h : cr a v b = 0) (h1 : ¬ On a v b) (h2 : ¬ On v b a) : On a b v := by
  obtain ⟨t, e⟩ := on_num hav h
  by_cases t1 : 1 < t
  · obtain ⟨p, q, r⟩ := inv_lt1 t1
    refine ⟨1 / t, by grind, by grind, ?_⟩
    rw [e]
    apply Prod.ext <;> simp only <;> grind
  · by_cases t0 : 0 ≤ t
    · exact absurd ⟨t, t0, by grind, e⟩ h1
    · exfalso
      obtain ⟨p, q, r⟩ := inv_lt1 (t := 1 - t) (by grind)
      refine h2 ⟨1 / (1 - t), by grind, by grind, ?_⟩
      rw [e]
      apply Prod.ext <;> simp only <;> grind
/-- strictly between -/
theorem between_strict {a v b : Pt} (hav : a ≠ v) (hvb : v ≠ b) (h : On a b v) : ∃ t : Rat, 0 < t ∧ t < 1 ∧ v = (a.1 + t * (b.1 - a.1), a.2 + t * (b.2 - a.2)) := by
  obtain ⟨t, t0, t1, e⟩ := h
  refine ⟨t, ?_, ?_, e⟩
  · by_cases h : t = 0
    · subst h; exact absurd (by rw [e]; apply Prod.ext <;> simp only <;> grind) hav
    · grind
  · by_cases h : t = 1
    · subst h; exact absurd (by rw [e]; apply Prod.ext <;> simp only <;> grind) hvb
    · grind
theorem On_halves {a v b x : Pt} (hav : a ≠ v) (hvb : v ≠ b) (h : On a b v) : On a b x ↔ On a v x ∨ On v b x := by
  constructor
  · rintro ⟨s, s0, s1, e⟩
    obtain ⟨t, t0, t1, f⟩ := between_strict hav hvb h
    by_cases hst : s ≤ t
    · refine Or.inl ⟨s / t, div_nn t0 s0, div_le1 t0 hst, ?_⟩
      have : s / t * t = s := by grind
      rw [e, f]
      apply Prod.ext <;> simp only <;> grind
    · have p : 0 < 1 - t := by grind
      refine Or.inr ⟨(s - t) / (1 - t), div_nn p (by grind), div_le1 p (by grind), ?_⟩
      have : (s - t) / (1 - t) * (1 - t) = s - t := by grind
      rw [e, f]
      apply Prod.ext <;> simp only <;> grind
  · rintro (k | k)
    · exact On_symm (On_sub (On_symm h) (On_symm k))
    · exact On_sub h k
end Geo
end
section
/- Leaving out a straight vertex of a simple polygon; twice the area of a closed path. -/
namespace Geo
theorem Simp.ends {v a b : Pt} {L M N : List Pt} (h : Simp (v :: L)) (hb : L = b :: M) (ha : L = N ++ [a]) : a ≠ v ∧ v ≠ b ∧ a ≠ b ∧ b ∈ L ∧ a ∈ L ∧ v ∉ L := by
  have hn := List.nodup_cons.1 h.nodup
  have hbm : b ∈ L := by rw [hb]; simp
  have ham : a ∈ L := by rw [ha]; simp
  refine ⟨fun e => hn.1 (e ▸ ham), fun e => hn.1 (e ▸ hbm), fun e => ?_, hbm, ham, hn.1⟩
  subst e
  have hl := h.len
  have h2 := hn.2
  rw [hb] at h2 ha
  cases N with
  | nil => simp at ha; subst ha; rw [hb] at hl; simp at hl
  | cons c N =>
    rw [List.cons_append, List.cons.injEq] at ha
    rw [ha.2] at h2
    exact (List.nodup_cons.1 h2).1 (by simp)
/-- a straight vertex lies between its neighbours -/
theorem Simp.mid {v a b : Pt} {L M N : List Pt} (h : Simp (v :: L)) (hb : L = b :: M) (ha : L = N ++ [a]) (h0 : cr a v b = 0) : On a b v ∧ 3 ≤ L.length := by
  obtain ⟨h1, h2, h3, h4, h5, h6⟩ := h.ends hb ha
  have hce := ces_cons (v := v) hb ha
  have hm : On a b v := by
    refine between_of h1 h0 (fun ho => ?_) (fun ho => ?_)
    · rcases h.vert ((hce (a, v)).2 (Or.inr (Or.inr rfl))) (List.mem_cons_of_mem _ h4) ho with e | e
      · exact h3 e.symm
      · exact h2 e.symm
    · rcases h.vert ((hce (v, b)).2 (Or.inl rfl)) (List.mem_cons_of_mem _ h5) ho with e | e
      · exact h1 e
      · exact h3 e
  refine ⟨hm, ?_⟩
  have hl := h.len
  simp only [List.length_cons] at hl
  by_cases h7 : L.length = 2
  · exfalso
    have hL : L = [b, a] := by
      rw [hb] at h7 ha ⊢
      match M, h7 with
      | [c], _ =>
        cases N with
        | nil => simp at ha
        | cons d N =>
          rw [List.cons_append, List.cons.injEq] at ha
          cases N with
          | nil => simp at ha; rw [ha.2]
          | cons _ _ => have := congrArg List.length ha.2; simp at this
    have hs : (b, a) ∈ ces (v :: L) := (hce (b, a)).2 (Or.inr (Or.inl (by rw [hL]; simp [es])))
    rcases h.vert hs List.mem_cons_self (On_symm hm) with e | e
    · exact h2 e
    · exact h1 e.symm
  · omega
theorem Simp.skip {v a b : Pt} {L M N : List Pt} (h : Simp (v :: L)) (hb : L = b :: M) (ha : L = N ++ [a]) (h0 : cr a v b = 0) : Simp L where
  len := (h.mid hb ha h0).2
  nodup := (List.nodup_cons.1 h.nodup).2
  meet := by
    obtain ⟨h1, h2, h3, h4, h5, h6⟩ := h.ends hb ha
    obtain ⟨hm, _⟩ := h.mid hb ha h0
    have hce := ces_cons (v := v) hb ha
    have key : ∀ f ∈ es L, ∀ x, On a b x → On f.1 f.2 x → (x = a ∨ x = b) ∧ (x = f.1 ∨ x = f.2) := by
      intro f hf x hx hy
      have hfm := es_mem hf
      rcases (On_halves h1 h2 hm).1 hx with hx | hx
      · have := h.meet (a, v) ((hce _).2 (Or.inr (Or.inr rfl))) f ((hce _).2 (Or.inr (Or.inl hf))) (fun e => h6 (by rw [← e] at hfm; exact hfm.2)) x hx hy
        refine ⟨?_, this.2⟩
        rcases this.1 with e | e
        · exact Or.inl e
        · exfalso
          have e : x = v := e
          rcases this.2 with k | k
          · exact h6 (by rw [← e, k]; exact hfm.1)
          · exact h6 (by rw [← e, k]; exact hfm.2)
      · have := h.meet (v, b) ((hce _).2 (Or.inl rfl)) f ((hce _).2 (Or.inr (Or.inl hf))) (fun e => h6 (by rw [← e] at hfm; exact hfm.1)) x hx hy
        refine ⟨?_, this.2⟩
        rcases this.1 with e | e
        · exfalso
          have e : x = v := e
          rcases this.2 with k | k
          · exact h6 (by rw [← e, k]; exact hfm.1)
          · exact h6 (by rw [← e, k]; exact hfm.2)
        · exact Or.inr e
    intro e he f hf hne x hx hy
    rcases (ces_L hb ha e).1 he with he | he <;> rcases (ces_L hb ha f).1 hf with hf | hf
    · exact h.meet e ((hce _).2 (Or.inr (Or.inl he))) f ((hce _).2 (Or.inr (Or.inl hf))) hne x hx hy
    · subst hf; exact (key e he x hy hx).symm
    · subst he; exact key f hf x hx hy
    · exact absurd (he.trans hf.symm) hne
/-- on a side -/
def OnP (P : List Pt) (q : Pt) : Prop := ∃ e ∈ ces P, On e.1 e.2 q
theorem off_iff {P : List Pt} {q : Pt} : Off P q ↔ ¬ OnP P q := ⟨fun h ⟨e, he, ho⟩ => h e he ho, fun h e he ho => h ⟨e, he, ho⟩⟩
theorem Rot.onP {P Q : List Pt} (h : Rot P Q) (q : Pt) : OnP P q ↔ OnP Q q :=
  ⟨fun ⟨e, he, ho⟩ => ⟨e, (h.ces e).1 he, ho⟩, fun ⟨e, he, ho⟩ => ⟨e, (h.ces e).2 he, ho⟩⟩
/-- twice the area -/
def sh (a b : Pt) : Rat := a.1 * b.2 - a.2 * b.1
def pa : List Pt → Rat
  | a :: b :: l => sh a b + pa (b :: l)
  | _ => 0
def ar : List Pt → Rat
  | [] => 0
  | a :: l => pa (a :: (l ++ [a]))
theorem pa_two (a b : Pt) (l : List Pt) : pa (a :: b :: l) = sh a b + pa (b :: l) := rfl
theorem pa_split (A : List Pt) (x : Pt) (B : List Pt) : pa (A ++ x :: B) = pa (A ++ [x]) + pa (x :: B) := by
  induction A with
  | nil => show pa (x :: B) = 0 + pa (x :: B); grind
  | cons a A ih =>
    cases A with
    | nil =>
      show sh a x + pa (x :: B) = (sh a x + 0) + pa (x :: B)
      grind
    | cons b A =>
      simp only [List.cons_append, pa_two] at ih ⊢
      rw [ih]
      grind
theorem ar_rot (A B : List Pt) : ar (A ++ B) = ar (B ++ A) := by
  cases A with
  | nil => simp
  | cons a A =>
    cases B with
    | nil => simp
    | cons b B =>
      simp only [List.cons_append, ar, List.append_assoc]
      have h1 := pa_split (a :: A) b (B ++ [a])
      have h2 := pa_split (b :: B) a (A ++ [b])
      simp only [List.cons_append, List.append_assoc] at h1 h2
      rw [h1, h2]; grind
theorem Rot.ar {P Q : List Pt} (h : Rot P Q) : ar P = Geo.ar Q := by
  obtain ⟨A, B, rfl, rfl⟩ := h
  exact ar_rot A B
theorem pa_get (L : List Pt) : ∀ f : Nat → Int, (∀ i, i + 1 < L.length → sh (L.getD i (0, 0)) (L.getD (i + 1) (0, 0)) = (f i : Rat)) → pa L = ((sumN f (L.length - 1) : Int) : Rat) := by
  induction L with
  | nil => intro f _; rfl
  | cons a l ih =>
    cases l with
    | nil => intro f _; rfl
    | cons b l =>
      intro f h
      rw [pa_two, ih (fun i => f (i + 1)) (fun i hi => h (i + 1) (by simpa using hi))]
      show _ = ((sumN _ (l.length + 1) : Int) : Rat)
      rw [sumN_head, Rat.intCast_add, ← h 0 (by simp)]
      rfl
end Geo
end
section
/- The corners of a simple polygon: the straight vertices left out. -/
namespace Geo
def hd (L : List Pt) (z : Pt) : Pt := L.headD z
end Geo
end
section
/- The sign of the area is that of the winding; common points of segments; back to the program's test. -/
namespace Geo
/-- the winding number s of the inside, and the area's sign -/
structure Turns (P : List Pt) (s : Int) : Prop where
  one : s = 1 ∨ s = -1
  two : ∀ q, Off P q → cw P q = 0 ∨ cw P q = s
  some : ∃ y, Off P y ∧ cw P y = s
  area : 0 < (s : Rat) * ar P
theorem Turns.pos {P : List Pt} {s : Int} (h : Turns P s) : s = 1 ↔ 0 < ar P := by
  have ha := h.area
  have e1 : ((1 : Int) : Rat) = 1 := rfl
  have e2 : ((-1 : Int) : Rat) = -1 := rfl
  rcases h.one with rfl | rfl
  · rw [e1] at ha; exact ⟨fun _ => by grind, fun _ => rfl⟩
  · rw [e2] at ha; exact ⟨fun h => by omega, fun h => by exfalso; grind⟩
/-- crossing segments have a point in common -/
theorem cross_pt {a b c d : Pt} (h1 : (cr a b c < 0 ∧ 0 < cr a b d) ∨ (0 < cr a b c ∧ cr a b d < 0)) (h2 : (cr c d a < 0 ∧ 0 < cr c d b) ∨ (0 < cr c d a ∧ cr c d b < 0)) : ∃ x, On a b x ∧ On c d x := by
  have hx : ∃ x, On c d x ∧ cr a b x = 0 := by
    rcases h1 with ⟨k1, k2⟩ | ⟨k1, k2⟩
    · obtain ⟨x, x1, x2, _⟩ := ivt k1 (show 0 ≤ cr a b d by grind); exact ⟨x, x1, x2⟩
    · obtain ⟨x, x1, x2, _⟩ := ivt k2 (show 0 ≤ cr a b c by grind); exact ⟨x, On_symm x1, x2⟩
  have hy : ∃ y, On a b y ∧ cr c d y = 0 := by
    rcases h2 with ⟨k1, k2⟩ | ⟨k1, k2⟩
    · obtain ⟨x, x1, x2, _⟩ := ivt k1 (show 0 ≤ cr c d b by grind); exact ⟨x, x1, x2⟩
    · obtain ⟨x, x1, x2, _⟩ := ivt k2 (show 0 ≤ cr c d a by grind); exact ⟨x, On_symm x1, x2⟩
  obtain ⟨x, x1, x2⟩ := hx
  obtain ⟨y, y1, y2⟩ := hy
  have x3 := On_cr x1
  have y3 := On_cr y1
  have hne : cr a b d - cr a b c ≠ 0 := by rcases h1 with h | h <;> grind
  have e : x = y := by
    have d1 : (cr a b d - cr a b c) * (x.1 - y.1) = 0 := by unfold cr at *; grind
    have d2 : (cr a b d - cr a b c) * (x.2 - y.2) = 0 := by unfold cr at *; grind
    apply Prod.ext
    · rcases Rat.mul_eq_zero.1 d1 with k | k
      · exact absurd k hne
      · grind
    · rcases Rat.mul_eq_zero.1 d2 with k | k
      · exact absurd k hne
      · grind
  exact ⟨x, e ▸ y1, x1⟩
theorem meet_pt {a b c d : Pt} (h : MeetR a b c d) : ∃ x, On a b x ∧ On c d x := by
  rcases h with h | h | h | h | ⟨h, k⟩
  · exact ⟨c, h, On_left _ _⟩
  · exact ⟨d, h, On_right _ _⟩
  · exact ⟨a, On_left _ _, h⟩
  · exact ⟨b, On_right _ _, h⟩
  · exact cross_pt h k
theorem nodup_cz {P : List IP} : (czL P).Nodup ↔ P.Nodup := by
  unfold czL List.Nodup
  rw [List.pairwise_map]
  constructor
  · intro h; exact h.imp fun hab e => hab (by rw [e])
  · intro h; exact h.imp fun hab e => hab (cz_inj.1 e)
theorem nth_inj {P : List IP} (h : P.Nodup) {i j : Nat} (h0 : 0 < P.length) (e : nth P i = nth P j) : i % P.length = j % P.length := by
  have hi := Nat.mod_lt i h0
  have hj := Nat.mod_lt j h0
  have e1 : nth P i = P[i % P.length] := by unfold nth; simp [List.getD, hi]
  have e2 : nth P j = P[j % P.length] := by unfold nth; simp [List.getD, hj]
  rw [e1, e2] at e
  have hp := List.pairwise_iff_getElem.1 h
  rcases Nat.lt_trichotomy (i % P.length) (j % P.length) with k | k | k
  · exact absurd e (hp _ _ hi hj k)
  · exact k
  · exact absurd e.symm (hp _ _ hj hi k)
theorem simpI_of {P : List IP} (h3 : 3 ≤ P.length) (h : Simp (czL P)) : SimpI P := by
  have hP : P ≠ [] := by rintro rfl; simp at h3
  have hn := nodup_cz.1 h.nodup
  have h0 : 0 < P.length := by omega
  have inj : ∀ {i j}, nth P i = nth P j → i % P.length = j % P.length := fun e => nth_inj hn h0 e
  have side : ∀ i, i < P.length → (cz (nth P i), cz (nth P (i + 1))) ∈ ces (czL P) := fun i hi => (ces_get hP _).2 ⟨i, hi, rfl⟩
  have mem : ∀ i, cz (nth P i) ∈ czL P := fun i => List.mem_map_of_mem (nth_in hP i)
  intro i hi
  have m1 : (i + 1) % P.length = if i + 1 = P.length then 0 else i + 1 := by
    split
    · rename_i e; rw [e, Nat.mod_self]
    · exact Nat.mod_eq_of_lt (by omega)
  have m2 : (i + 2) % P.length = if i + 2 = P.length then 0 else if i + 1 = P.length then 1 else i + 2 := by
    split
    · rename_i e; rw [e, Nat.mod_self]
    · split
      · rename_i e; rw [show i + 2 = 1 + P.length by omega, Nat.add_mod_right]; exact Nat.mod_eq_of_lt (by omega)
      · exact Nat.mod_eq_of_lt (by omega)
  have m0 : i % P.length = i := Nat.mod_eq_of_lt hi
  refine ⟨fun e => ?_, fun hb => ?_, fun hb => ?_, fun k hik hk hx hm => ?_⟩
  · have := inj e
    rw [m0, m1] at this
    split at this <;> omega
  · rcases h.vert (side i hi) (mem (i + 2)) ((bet_On _ _ _).1 hb) with e | e
    · have := inj (cz_inj.1 e)
      rw [m0, m2] at this
      (repeat' split at this) <;> omega
    · have := inj (cz_inj.1 e)
      rw [m1, m2] at this
      (repeat' split at this) <;> omega
  · have hs : (cz (nth P (i + 1)), cz (nth P (i + 2))) ∈ ces (czL P) := by
      have := side ((i + 1) % P.length) (Nat.mod_lt _ h0)
      have e2 : nth P ((i + 1) % P.length + 1) = nth P (i + 2) := by unfold nth; rw [Nat.mod_add_mod]
      rw [nth_modl, e2] at this
      exact this
    rcases h.vert hs (mem i) ((bet_On _ _ _).1 hb) with e | e
    · have := inj (cz_inj.1 e)
      rw [m0, m1] at this
      split at this <;> omega
    · have := inj (cz_inj.1 e)
      rw [m0, m2] at this
      (repeat' split at this) <;> omega
  · obtain ⟨x, x1, x2⟩ := meet_pt ((meetI_R _ _ _ _).1 hm)
    have k0 : k % P.length = k := Nat.mod_eq_of_lt hk
    have k1 : (k + 1) % P.length = if k + 1 = P.length then 0 else k + 1 := by
      split
      · rename_i e; rw [e, Nat.mod_self]
      · exact Nat.mod_eq_of_lt (by omega)
    have hne : (cz (nth P i), cz (nth P (i + 1))) ≠ (cz (nth P k), cz (nth P (k + 1))) := fun e => by
      have := inj (cz_inj.1 (congrArg Prod.fst e))
      rw [m0, k0] at this
      omega
    obtain ⟨u, w⟩ := h.meet _ (side i hi) _ (side k hk) hne x x1 x2
    have fin : ∀ s t : Nat, x = cz (nth P s) → x = cz (nth P t) → s % P.length = t % P.length := fun s t h1 h2 => inj (cz_inj.1 (h1.symm.trans h2))
    rcases u with u | u <;> rcases w with w | w
    · have := fin i k u w; rw [m0, k0] at this; omega
    · have := fin i (k + 1) u w; rw [m0, k1] at this; split at this <;> omega
    · have := fin (i + 1) k u w; rw [m1, k0] at this; split at this <;> omega
    · have := fin (i + 1) (k + 1) u w; rw [m1, k1] at this; (repeat' split at this) <;> omega
theorem simpI_iff {P : List IP} (h3 : 3 ≤ P.length) : SimpI P ↔ Simp (czL P) := ⟨simp_cz h3, simpI_of h3⟩
end Geo
end
section
/- The normal form of a simple polygon, in plain terms. -/
namespace Pl
open Go Geo Pm
theorem czL_app (a b : List IP) : czL (a ++ b) = czL a ++ czL b := List.map_append ..
theorem ar_cz {P : List IP} (hP : P ≠ []) : ar (czL P) = ((areaI P : Int) : Rat) := by
  obtain ⟨a, l, h, k⟩ := closed_get P hP
  have hl : (a :: (l ++ [a])).length = P.length + 1 := by
    have := congrArg List.length h
    rw [czL_len] at this
    simp at this ⊢; omega
  rw [h]
  show pa (a :: (l ++ [a])) = _
  rw [pa_get (a :: (l ++ [a])) (fun i => shoe (nth P i) (nth P (i + 1))) (fun i hi => ?_), hl, ← shoe_area]
  · rfl
  · rw [k i (by omega), k (i + 1) (by omega)]
    unfold sh cz shoe
    rw [Rat.intCast_sub, Rat.intCast_mul, Rat.intCast_mul]
theorem onP_cz {P : List IP} (hP : P ≠ []) {q : IP} : OnP (czL P) (cz q) ↔ OnI P q := by
  have := off_cz hP (q := q)
  rw [off_iff] at this
  constructor
  · intro h; exact Classical.not_not.1 fun hn => this.2 hn h
  · intro h; exact Classical.not_not.1 fun hn => this.1 hn h
/-- two lists that are one polygon but for where they begin -/
def RotI (P Q : List IP) : Prop := ∃ A B, P = A ++ B ∧ Q = B ++ A
theorem RotI.cz {P Q : List IP} (h : RotI P Q) : Rot (czL P) (czL Q) := by
  obtain ⟨A, B, rfl, rfl⟩ := h
  exact ⟨czL A, czL B, czL_app A B, czL_app B A⟩
theorem RotI.symm {P Q : List IP} (h : RotI P Q) : RotI Q P := by obtain ⟨A, B, h1, h2⟩ := h; exact ⟨B, A, h2, h1⟩
theorem RotI.len {P Q : List IP} (h : RotI P Q) : P.length = Q.length := by obtain ⟨A, B, rfl, rfl⟩ := h; simp; omega
theorem RotI.mem {P Q : List IP} (h : RotI P Q) (s : IP) : s ∈ P ↔ s ∈ Q := by obtain ⟨A, B, rfl, rfl⟩ := h; simp [or_comm]
theorem RotI.ne {P Q : List IP} (h : RotI P Q) (hP : P ≠ []) : Q ≠ [] := by
  intro e
  have := h.len
  rw [e] at this
  exact hP (List.length_eq_zero_iff.1 this)
theorem RotI.chk {P Q : List IP} (h : RotI P Q) : Geo.chk P = Geo.chk Q := by
  have hl := h.len
  have hi : InsI P ↔ InsI Q := ⟨fun k s hs => k s ((h.mem s).2 hs), fun k s hs => k s ((h.mem s).1 hs)⟩
  unfold Geo.chk
  by_cases h1 : 40 < P.length
  · rw [if_pos h1, if_pos (by omega)]
  rw [if_neg h1, if_neg (show ¬ 40 < Q.length by omega)]
  by_cases h2 : P.length < 3
  · rw [if_pos h2, if_pos (by omega)]
  rw [if_neg h2, if_neg (show ¬ Q.length < 3 by omega)]
  have hs : SimpI P ↔ SimpI Q := by
    rw [simpI_iff (by omega), simpI_iff (by omega)]
    exact ⟨h.cz.simp, h.cz.symm.simp⟩
  rw [show InsI P = InsI Q from propext hi, show SimpI P = SimpI Q from propext hs]
theorem RotI.area {P Q : List IP} (h : RotI P Q) (hP : P ≠ []) : areaI P = areaI Q := by
  have := h.cz.ar
  rw [ar_cz hP, ar_cz (h.ne hP)] at this
  exact Rat.intCast_inj.1 this
theorem RotI.wnd {P Q : List IP} (h : RotI P Q) (hP : P ≠ []) (q : IP) : wndI P q = wndI Q q := by
  rw [← cw_cz hP, ← cw_cz (h.ne hP), h.cz.cw]
theorem RotI.on {P Q : List IP} (h : RotI P Q) (hP : P ≠ []) (q : IP) : OnI P q ↔ OnI Q q := by
  rw [← onP_cz hP, ← onP_cz (h.ne hP), h.cz.onP]
/-- the corners of a valid polygon are a valid polygon that is the same -/
structure Corn (P : List IP) : Prop where
  chk : Geo.chk (corn P) = 0
  len : (corn P).length ≤ P.length
  area : areaI (corn P) = areaI P
  wnd : ∀ q, wndI (corn P) q = wndI P q
  on : ∀ q, OnI (corn P) q ↔ OnI P q
  self : corn (corn P) = corn P
  nodup : (corn P).Nodup
  sub : (corn P).Sublist P
end Pl
end
section
/- The test of a polygon by computing; the examples are run with it. -/
namespace Pl
open Go Geo Pm
def betB (a b q : IP) : Bool := crI a b q == 0 && (decide (min a.1 b.1 ≤ q.1) && decide (q.1 ≤ max a.1 b.1)) && (decide (min a.2 b.2 ≤ q.2) && decide (q.2 ≤ max a.2 b.2))
theorem betB_iff (a b q : IP) : betB a b q = true ↔ BetI a b q := by unfold betB BetI; simp only [Bool.and_eq_true, beq_iff_eq, decide_eq_true_eq, and_assoc]
def divB (a b p q : IP) : Bool := (decide (crI a b p < 0) && decide (0 < crI a b q)) || (decide (0 < crI a b p) && decide (crI a b q < 0))
theorem divB_iff (a b p q : IP) : divB a b p q = true ↔ DivI a b p q := by unfold divB DivI; simp only [Bool.or_eq_true, Bool.and_eq_true, decide_eq_true_eq]
def meetB (a b c d : IP) : Bool := betB a b c || (betB a b d || (betB c d a || (betB c d b || (divB a b c d && divB c d a b))))
theorem meetB_iff (a b c d : IP) : meetB a b c d = true ↔ MeetI a b c d := by unfold meetB MeetI; simp only [Bool.or_eq_true, Bool.and_eq_true, betB_iff, divB_iff]
def simpB (P : List IP) : Bool := (List.range P.length).all fun i => !(decide (nth P i = nth P (i + 1))) && (!betB (nth P i) (nth P (i + 1)) (nth P (i + 2)) && (!betB (nth P (i + 1)) (nth P (i + 2)) (nth P i) &&
  (List.range P.length).all fun k => !Nat.ble (i + 2) k || ((Nat.beq i 0 && Nat.beq k (P.length - 1)) || !meetB (nth P i) (nth P (i + 1)) (nth P k) (nth P (k + 1)))))
theorem simpB_iff (P : List IP) : simpB P = true ↔ SimpI P := by
  unfold simpB SimpI
  simp only [List.all_eq_true, List.mem_range, Bool.and_eq_true, Bool.not_eq_true', decide_eq_false_iff_not, ← Bool.not_eq_true, betB_iff, Bool.or_eq_true, meetB_iff, Nat.beq_eq, Nat.ble_eq]
  refine forall_congr' fun i => forall_congr' fun hi => ?_
  refine and_congr (by simp) (and_congr Iff.rfl (and_congr Iff.rfl ?_))
  constructor
  · intro h k h1 h2 h3
    rcases h k h2 with h4 | h4 | h4
    · exact absurd h1 h4
    · exact absurd h4 h3
    · exact h4
  · intro h k h2
    by_cases h1 : i + 2 ≤ k
    · by_cases h3 : i = 0 ∧ k = P.length - 1
      · exact Or.inr (Or.inl h3)
      · exact Or.inr (Or.inr (h k h1 h2 h3))
    · exact Or.inl h1
def insB (s : IP) : Bool := (decide (-1048576 ≤ s.1) && decide (s.1 ≤ 1048576)) && (decide (-1048576 ≤ s.2) && decide (s.2 ≤ 1048576))
theorem insB_iff (s : IP) : insB s = true ↔ insI s.1 ∧ insI s.2 := by unfold insB insI; simp only [Bool.and_eq_true, decide_eq_true_eq]
def chkB (P : List IP) : Int := cond (Nat.blt 40 P.length) 5 (cond (Nat.blt P.length 3) 11 (cond (P.all insB) (cond (simpB P) 0 11) 3))
theorem chkB_eq (P : List IP) : chkB P = chk P := by
  unfold chkB chk
  by_cases h1 : 40 < P.length
  · rw [if_pos h1, show Nat.blt 40 P.length = true from of_eq_true (by rw [Nat.blt_eq]; simp [h1])]; rfl
  rw [if_neg h1, show Nat.blt 40 P.length = false from Bool.eq_false_iff.2 (fun h => h1 (Nat.blt_eq ▸ h))]
  by_cases h2 : P.length < 3
  · rw [if_pos h2, show Nat.blt P.length 3 = true from of_eq_true (by rw [Nat.blt_eq]; simp [h2])]; rfl
  rw [if_neg h2, show Nat.blt P.length 3 = false from Bool.eq_false_iff.2 (fun h => h2 (Nat.blt_eq ▸ h))]
  have hin : P.all insB = true ↔ InsI P := by
    unfold InsI
    rw [List.all_eq_true]
    exact forall_congr' fun s => forall_congr' fun _ => insB_iff s
  by_cases h3 : InsI P
  · rw [if_neg (fun h => h h3), hin.2 h3]
    by_cases h4 : SimpI P
    · rw [if_pos h4, (simpB_iff P).2 h4]; rfl
    · rw [if_neg h4, show simpB P = false from Bool.eq_false_iff.2 (fun h => h4 ((simpB_iff P).1 h))]; rfl
  · rw [if_pos h3, show P.all insB = false from Bool.eq_false_iff.2 (fun h => h3 (hin.1 h))]; rfl
/-- calls that are known: the test of a polygon -/
def O11 : CallF := fun f as => cond (Nat.beq f 13 || Nat.beq f 67) (match as with
  | [.val t x] => match castT t (.sl t0) x with
    | some P => some [.val tI (chkB P)]
    | none => none
  | _ => none) none
theorem O11_less : Less O11 (limC G) := by
  intro f as r h
  unfold O11 at h
  cases hb : (Nat.beq f 13 || Nat.beq f 67) with
  | false => rw [hb] at h; cases h
  | true =>
    rw [hb] at h
    simp only [cond_true] at h
    split at h
    · rename_i t x
      split at h
      · rename_i P hc
        obtain ⟨e, hx⟩ := castT_some hc
        subst e
        subst hx
        injection h with h
        subst h
        rw [chkB_eq]
        rw [Bool.or_eq_true] at hb
        rcases hb with hb | hb
        · rw [Nat.eq_of_beq_eq_true hb]; exact check_cg _
        · rw [Nat.eq_of_beq_eq_true hb]; exact rcheck_cg _
      · cases h
    · cases h
theorem run11 {f k : Nat} {as : List D} {r : R} (h : evO G O11 k f as = some r) : CG f as = some r := evO_lim O11_less k f as r h
end Pl
end
section
/- Chapter 13: where a point lies in respect of a triangle. -/
namespace Pl
open Go Geo Pm
theorem tcross_ok {a b c : IP} (ha : insP a) (hb : insP b) (hc : insP c) : callT CG [.v tI] 27 [.val t0 a, .val t0 b, .val t0 c] = some (crI a b c) :=
  callT_of (triangle_cross_st a b c (by rw [cross_w ha hb hc])) rfl
theorem covers_ok {a b c q : IP} (ha : insP a) (hb : insP b) (hc : insP c) (hq : insP q) : callT CG [.v .bool] 28 [.val t0 a, .val t0 b, .val t0 c, .val t0 q] = some (decide (0 ≤ crI a b q ∧ 0 ≤ crI b c q ∧ 0 ≤ crI c a q)) := by
  refine callT_of (triangle_covers_st a b c q (r := [.val .bool (decide (0 ≤ crI a b q ∧ 0 ≤ crI b c q ∧ 0 ≤ crI c a q))]) ?_) rfl
  refine bnd (tcross_ok ha hb hq) ?_
  by_cases h1 : crI a b q ≥ 0
  · refine pos (dt h1) (bnd (tcross_ok hb hc hq) ?_)
    by_cases h2 : crI b c q ≥ 0
    · refine pos (dt h2) (bnd (tcross_ok hc ha hq) ?_)
      rw [show decide (crI c a q ≥ (0 : Int)) = decide (0 ≤ crI a b q ∧ 0 ≤ crI b c q ∧ 0 ≤ crI c a q) from decide_eq_decide.2 ⟨fun h => ⟨h1, h2, h⟩, fun h => h.2.2⟩]
    · refine neg (df h2) ?_; rw [decide_eq_false (fun h => h2 h.2.1)]
  · refine neg (df h1) ?_; rw [decide_eq_false (fun h => h1 h.1)]
instance (s : IP) : Decidable (insP s) := inferInstanceAs (Decidable (_ ∧ _))
theorem tnear_ok (s : IP) : callT CG [.v .bool] 29 [.val t0 s] = some (decide (insP s)) := by
  refine callT_of (triangle_near_st s (r := [.val .bool (decide (insP s))]) ?_) rfl
  have no : ¬ insP s → some [D.val .bool false] = some [D.val .bool (decide (insP s))] := fun h => by rw [decide_eq_false h]
  unfold insP insI at *
  by_cases h1 : s.1 ≥ -1048576
  · refine pos (dt h1) ?_
    by_cases h2 : s.1 ≤ 1048576
    · refine pos (dt h2) ?_
      by_cases h3 : s.2 ≥ -1048576
      · refine pos (dt h3) ?_
        rw [show decide (s.2 ≤ (1048576 : Int)) = decide (((-1048576 ≤ s.1 ∧ s.1 ≤ 1048576) ∧ (-1048576 ≤ s.2 ∧ s.2 ≤ 1048576))) from decide_eq_decide.2 (by omega)]
        rfl
      · exact neg (df h3) (no (by omega))
    · exact neg (df h2) (no (by omega))
  · exact neg (df h1) (no (by omega))
/-- 1, 0 or -1: within, on the boundary, outside -/
def hld (a b c q : IP) : Int := if crI a b c = 0 then -1 else min (min (min 1 (sgI (crI a b c) * sgI (crI a b q))) (sgI (crI a b c) * sgI (crI b c q))) (sgI (crI a b c) * sgI (crI c a q))
theorem sgI_cases (n : Int) : (0 < n ∧ sgI n = 1) ∨ (n < 0 ∧ sgI n = -1) ∨ (n = 0 ∧ sgI n = 0) := by unfold sgI; split <;> (try split) <;> omega
def three (t : List IP) (q : IP) : Prop := t.length = 3 ∧ insP (t.getD 0 (0, 0)) ∧ insP (t.getD 1 (0, 0)) ∧ insP (t.getD 2 (0, 0)) ∧ insP q
instance (t : List IP) (q : IP) : Decidable (three t q) := inferInstanceAs (Decidable (_ ∧ _))
def holdM (t : List IP) (q : IP) : Int := if three t q then hld (t.getD 0 (0, 0)) (t.getD 1 (0, 0)) (t.getD 2 (0, 0)) q else -1
theorem hld_pos {a b c q : IP} (h : 0 < crI a b c) : hld a b c q = if 0 ≤ crI a b q ∧ 0 ≤ crI b c q ∧ 0 ≤ crI c a q then (if crI a b q = 0 ∨ crI b c q = 0 ∨ crI c a q = 0 then 0 else 1) else -1 := by
  unfold hld
  rw [if_neg (by omega), show sgI (crI a b c) = 1 from if_pos h]
  rcases sgI_cases (crI a b q) with ⟨h1, e1⟩ | ⟨h1, e1⟩ | ⟨h1, e1⟩ <;> rcases sgI_cases (crI b c q) with ⟨h2, e2⟩ | ⟨h2, e2⟩ | ⟨h2, e2⟩ <;> rcases sgI_cases (crI c a q) with ⟨h3, e3⟩ | ⟨h3, e3⟩ | ⟨h3, e3⟩ <;> rw [e1, e2, e3] <;> (split <;> (try split)) <;> omega
theorem hld_swap (a b c q : IP) : hld a c b q = hld a b c q := by
  unfold hld
  have e0 : crI a c b = - crI a b c := by unfold crI; grind
  have e1 : crI a c q = - crI c a q := by unfold crI; grind
  have e2 : crI c b q = - crI b c q := by unfold crI; grind
  have e3 : crI b a q = - crI a b q := by unfold crI; grind
  have hs : ∀ n, sgI (-n) = - sgI n := fun n => by unfold sgI; (repeat' split) <;> omega
  rw [e0, e1, e2, e3]
  by_cases h : crI a b c = 0
  · rw [if_pos (by omega), if_pos h]
  · rw [if_neg (by omega), if_neg h, hs, hs, hs, hs, Int.neg_mul_neg, Int.neg_mul_neg, Int.neg_mul_neg]
    omega
theorem holds_fin {a b c q : IP} (ha : insP a) (hb : insP b) (hc : insP c) (hq : insP q) (h : 0 < crI a b c) : ((callT CG [.v .bool] 28 [.val t0 a, .val t0 b, .val t0 c, .val t0 q]).bind fun (r10 : Bool) => (if (!r10) = true then (some [.val tI ((-1) : Int)]) else ((callT CG [.v tI] 27 [.val t0 a, .val t0 b, .val t0 q]).bind fun (r11 : Int) => (if (r11 == (0 : Int)) = true then (some [.val tI (0 : Int)]) else ((callT CG [.v tI] 27 [.val t0 b, .val t0 c, .val t0 q]).bind fun (r12 : Int) => (if (r12 == (0 : Int)) = true then (some [.val tI (0 : Int)]) else ((callT CG [.v tI] 27 [.val t0 c, .val t0 a, .val t0 q]).bind fun (r13 : Int) => (if (r13 == (0 : Int)) = true then (some [.val tI (0 : Int)]) else (some [.val tI (1 : Int)]))))))))) = some [D.val tI (hld a b c q)] := by
  rw [hld_pos h]
  refine bnd (covers_ok ha hb hc hq) ?_
  by_cases hcv : 0 ≤ crI a b q ∧ 0 ≤ crI b c q ∧ 0 ≤ crI c a q
  · rw [if_pos hcv]
    refine neg (by simp [hcv]) (bnd (tcross_ok ha hb hq) ?_)
    by_cases h1 : crI a b q = 0
    · rw [if_pos (Or.inl h1)]; exact pos (by simp [h1]) rfl
    refine neg (by simp [h1]) (bnd (tcross_ok hb hc hq) ?_)
    by_cases h2 : crI b c q = 0
    · rw [if_pos (Or.inr (Or.inl h2))]; exact pos (by simp [h2]) rfl
    refine neg (by simp [h2]) (bnd (tcross_ok hc ha hq) ?_)
    by_cases h3 : crI c a q = 0
    · rw [if_pos (Or.inr (Or.inr h3))]; exact pos (by simp [h3]) rfl
    · refine neg (by simp [h3]) ?_; rw [if_neg (show ¬ (crI a b q = 0 ∨ crI b c q = 0 ∨ crI c a q = 0) by omega)]
  · rw [if_neg hcv]
    exact pos (by rw [decide_eq_false hcv]; rfl) rfl
theorem holds_st (t : List IP) (q : IP) : callT CG [.v tI] 2 [.val (.sl t0) t, .val t0 q] = some (holdM t q) := by
  refine callT_of (triangle_Holds_st t q (r := [.val tI (holdM t q)]) ?_) rfl
  have no : ¬ three t q → some [D.val tI (-1)] = some [D.val tI (holdM t q)] := fun h => by rw [show holdM t q = -1 from if_neg h]
  rw [show Int.toNat (0 : Int) = 0 from rfl, show Int.toNat (1 : Int) = 1 from rfl, show Int.toNat (2 : Int) = 2 from rfl]
  by_cases hl : t.length = 3
  · refine neg (by simp [hl]) (pos (by omega) (bnd (tnear_ok _) ?_))
    by_cases h0 : insP (t.getD 0 (0, 0))
    · refine neg (by rw [decide_eq_true h0]; simp) (pos (by omega) (bnd (tnear_ok _) ?_))
      by_cases h1 : insP (t.getD 1 (0, 0))
      · refine neg (by rw [decide_eq_true h1]; simp) (pos (by omega) (bnd (tnear_ok _) ?_))
        by_cases h2 : insP (t.getD 2 (0, 0))
        · refine neg (by rw [decide_eq_true h2]; simp) (bnd (tnear_ok _) ?_)
          by_cases hq : insP q
          · refine neg (by rw [decide_eq_true hq]; simp) (pos (by omega) (pos (by omega) (pos (by omega) (bnd (tcross_ok h0 h1 h2) ?_))))
            rw [show holdM t q = hld (t.getD 0 (0, 0)) (t.getD 1 (0, 0)) (t.getD 2 (0, 0)) q from if_pos ⟨hl, h0, h1, h2, hq⟩]
            generalize t.getD 0 (0, 0) = a at *
            generalize t.getD 1 (0, 0) = b at *
            generalize t.getD 2 (0, 0) = c at *
            by_cases hz : crI a b c = 0
            · rw [show hld a b c q = -1 from if_pos hz]; exact pos (by simp [hz]) rfl
            refine neg (by simp [hz]) ?_
            by_cases hn : crI a b c < 0
            · refine pos (dt hn) ?_
              rw [← hld_swap]
              exact holds_fin h0 h2 h1 hq (by have : crI a c b = - crI a b c := by unfold crI; grind
                                              omega)
            · exact neg (df hn) (holds_fin h0 h1 h2 hq (by omega))
          · exact pos (by rw [decide_eq_false hq]; rfl) (no fun h => hq h.2.2.2.2)
        · exact pos (by rw [decide_eq_false h2]; rfl) (no fun h => h2 h.2.2.2.1)
      · exact pos (by rw [decide_eq_false h1]; rfl) (no fun h => h1 h.2.2.1)
    · exact pos (by rw [decide_eq_false h0]; rfl) (no fun h => h0 h.2.1)
  · exact pos (by simp; omega) (no fun h => hl h.1)
theorem rsign_ok (n : Int) : callT CG [.v tI] 34 [.val tI n] = some (sgI n) := by
  refine callT_of (garmentref13_sign_st n (r := [.val tI (sgI n)]) ?_) rfl
  unfold sgI
  simp only [decide_eq_true_eq]
  (repeat' split) <;> rfl
theorem far_ok (s : IP) : callT CG [.v .bool] 31 [.val t0 s] = some (!decide (insP s)) := by
  refine callT_of (garmentref13_Far_st s (r := [.val .bool (!decide (insP s))]) ?_) rfl
  have yes : ¬ insP s → some [D.val .bool true] = some [D.val .bool (!decide (insP s))] := fun h => by rw [decide_eq_false h]; rfl
  by_cases h1 : s.1 > 1048576
  · exact pos (dt h1) (yes (by unfold insP insI; omega))
  refine neg (df h1) ?_
  by_cases h2 : s.1 < -1048576
  · exact pos (dt h2) (yes (by unfold insP insI; omega))
  refine neg (df h2) ?_
  by_cases h3 : s.2 > 1048576
  · exact pos (dt h3) (yes (by unfold insP insI; omega))
  refine neg (df h3) ?_
  rw [← decide_not, show decide (s.2 < (-1048576 : Int)) = decide (¬ insP s) from decide_eq_decide.2 (by unfold insP insI; omega)]
def prop3 (t : List IP) : Prop := (t.length = 3 ∧ insP (t.getD 0 (0, 0)) ∧ insP (t.getD 1 (0, 0)) ∧ insP (t.getD 2 (0, 0))) ∧ crI (t.getD 0 (0, 0)) (t.getD 1 (0, 0)) (t.getD 2 (0, 0)) ≠ 0
instance (t : List IP) : Decidable (prop3 t) := inferInstanceAs (Decidable (_ ∧ _))
theorem proper_ok (t : List IP) : callT CG [.v .bool] 30 [.val (.sl t0) t] = some (decide (prop3 t)) := by
  refine callT_of (garmentref13_Proper_st t (r := [.val .bool (decide (prop3 t))]) ?_) rfl
  have no : ¬ prop3 t → some [D.val .bool false] = some [D.val .bool (decide (prop3 t))] := fun h => by rw [decide_eq_false h]
  rw [show Int.toNat (0 : Int) = 0 from rfl, show Int.toNat (1 : Int) = 1 from rfl, show Int.toNat (2 : Int) = 2 from rfl]
  by_cases hl : t.length = 3
  · refine neg (by simp [hl]) (pos (by omega) (bnd (far_ok _) ?_))
    by_cases h0 : insP (t.getD 0 (0, 0))
    · refine neg (by rw [decide_eq_true h0]; simp) (pos (by omega) (bnd (far_ok _) ?_))
      by_cases h1 : insP (t.getD 1 (0, 0))
      · refine neg (by rw [decide_eq_true h1]; simp) (pos (by omega) (bnd (far_ok _) ?_))
        by_cases h2 : insP (t.getD 2 (0, 0))
        · refine neg (by rw [decide_eq_true h2]; simp) (pos (by omega) (pos (by omega) (pos (by omega) (bnd (cross_ok h0 h1 h2) ?_))))
          have e : (crI (t.getD 0 (0, 0)) (t.getD 1 (0, 0)) (t.getD 2 (0, 0)) != 0) = decide (prop3 t) := by
            by_cases hz : crI (t.getD 0 (0, 0)) (t.getD 1 (0, 0)) (t.getD 2 (0, 0)) = 0
            · rw [hz, decide_eq_false (fun h => h.2 hz)]; rfl
            · rw [decide_eq_true (show prop3 t from ⟨⟨hl, h0, h1, h2⟩, hz⟩)]; exact nn0 hz
          rw [e]
        · exact pos (by rw [decide_eq_false h2]; rfl) (no fun h => h2 h.1.2.2.2)
      · exact pos (by rw [decide_eq_false h1]; rfl) (no fun h => h1 h.1.2.2.1)
    · exact pos (by rw [decide_eq_false h0]; rfl) (no fun h => h0 h.1.2.1)
  · exact pos (by simp; omega) (no fun h => hl h.1.1)
theorem sg_w (x y : Int) : wr .i64 (sgI x * sgI y) = sgI x * sgI y ∧ -1 ≤ sgI x * sgI y ∧ sgI x * sgI y ≤ 1 := by
  rcases sgI_cases x with ⟨_, e1⟩ | ⟨_, e1⟩ | ⟨_, e1⟩ <;> rcases sgI_cases y with ⟨_, e2⟩ | ⟨_, e2⟩ | ⟨_, e2⟩ <;> rw [e1, e2] <;> exact ⟨wr64 (by omega) (by omega), by omega, by omega⟩
theorem rplace_ok {a b c q : IP} (ha : insP a) (hb : insP b) (hc : insP c) (hq : insP q) : callT CG [.v tI] 32 [.val (.sl t0) ([a, b, c]), .val t0 q] = some (min (min (min 1 (sgI (crI a b c) * sgI (crI a b q))) (sgI (crI a b c) * sgI (crI b c q))) (sgI (crI a b c) * sgI (crI c a q))) := by
  refine callT_of (garmentref13_place_st [a, b, c] q (r := [.val tI (min (min (min 1 (sgI (crI a b c) * sgI (crI a b q))) (sgI (crI a b c) * sgI (crI b c q))) (sgI (crI a b c) * sgI (crI c a q)))]) ?_) rfl
  refine pos (by simp) (pos (by simp) (pos (by simp) (bnd (v := crI a b c) (cross_ok ha hb hc) (bnd (rsign_ok _) ?_))))
  refine garmentref13_place_lp1_st _ _ _ _ _ _ _ (pos (by simp) (pos (by simp) (pos (by omega) ?_)))
  rw [show Int.tmod (wr .i64 ((0 : Int) + 1)) 3 = 1 by rw [wr64 (by omega) (by omega)]; rfl]
  refine pos (by simp) (bnd (v := crI a b q) (cross_ok ha hb hq) (bnd (rsign_ok _) ?_))
  rw [(sg_w _ _).1, show wr .i64 ((0 : Int) + 1) = 1 from wr64 (by omega) (by omega), show (if sgI (crI a b c) * sgI (crI a b q) < 1 then sgI (crI a b c) * sgI (crI a b q) else 1) = min 1 (sgI (crI a b c) * sgI (crI a b q)) by omega]
  refine garmentref13_place_lp1_st _ _ _ _ _ _ _ (pos (by simp) (pos (by simp) (pos (by omega) ?_)))
  rw [show Int.tmod (wr .i64 ((1 : Int) + 1)) 3 = 2 by rw [wr64 (by omega) (by omega)]; rfl]
  refine pos (by simp) (bnd (v := crI b c q) (cross_ok hb hc hq) (bnd (rsign_ok _) ?_))
  rw [(sg_w _ _).1, show wr .i64 ((1 : Int) + 1) = 2 from wr64 (by omega) (by omega), show (if sgI (crI a b c) * sgI (crI b c q) < min 1 (sgI (crI a b c) * sgI (crI a b q)) then sgI (crI a b c) * sgI (crI b c q) else min 1 (sgI (crI a b c) * sgI (crI a b q))) = min (min 1 (sgI (crI a b c) * sgI (crI a b q))) (sgI (crI a b c) * sgI (crI b c q)) by omega]
  refine garmentref13_place_lp1_st _ _ _ _ _ _ _ (pos (by simp) (pos (by simp) (pos (by omega) ?_)))
  rw [show Int.tmod (wr .i64 ((2 : Int) + 1)) 3 = 0 by rw [wr64 (by omega) (by omega)]; rfl]
  refine pos (by simp) (bnd (v := crI c a q) (cross_ok hc ha hq) (bnd (rsign_ok _) ?_))
  rw [(sg_w _ _).1, show wr .i64 ((2 : Int) + 1) = 3 from wr64 (by omega) (by omega)]
  refine garmentref13_place_lp1_st _ _ _ _ _ _ _ (neg (by simp) ?_)
  rw [show ∀ x m : Int, (if x < m then x else m) = min m x from fun x m => by omega]
theorem rholds_ok (t : List IP) (q : IP) : callT CG [.v tI] 3 [.val (.sl t0) t, .val t0 q] = some (holdM t q) := by
  refine callT_of (garmentref13_Holds_st t q (r := [.val tI (holdM t q)]) ?_) rfl
  refine bnd (proper_ok t) ?_
  by_cases hp : prop3 t
  · refine neg (by rw [decide_eq_true hp]; simp) (bnd (far_ok q) ?_)
    obtain ⟨⟨hl, h0, h1, h2⟩, hz⟩ := hp
    by_cases hq : insP q
    · refine neg (by rw [decide_eq_true hq]; simp) ?_
      have et : t = [t.getD 0 (0, 0), t.getD 1 (0, 0), t.getD 2 (0, 0)] := by
        match t, hl with
        | [a, b, c], _ => rfl
      have := rplace_ok h0 h1 h2 hq
      rw [← et] at this
      refine bnd this ?_
      rw [show holdM t q = hld _ _ _ q from if_pos ⟨hl, h0, h1, h2, hq⟩, hld, if_neg hz]
    · refine pos (by rw [decide_eq_false hq]; rfl) ?_
      rw [show holdM t q = -1 from if_neg fun h => hq h.2.2.2.2]
  · refine pos (by rw [decide_eq_false hp]; rfl) ?_
    by_cases h3 : three t q
    · rw [show holdM t q = hld _ _ _ q from if_pos h3, hld, if_pos]
      exact Classical.byContradiction fun hz => hp ⟨⟨h3.1, h3.2.1, h3.2.2.1, h3.2.2.2.1⟩, hz⟩
    · rw [show holdM t q = -1 from if_neg h3]
end Pl
end
section
/- The examples of chapter 13, by running the plain reading. -/
namespace Pl
open Go Geo Pm
theorem alive13_ok : callT CG [.v .bool] 1 [] = some true := callT_of (run11 (k := 60) (r := [.val .bool true]) (by kernel_rfl)) rfl
end Pl
end
section
/- TriangleHolds: Holds returns the number that the reference returns, for any list of at most 60 vertices and any point. -/
namespace Pl
open Go Geo Pm
theorem many_ok (P : List IP) : callT CG [.v .bool] 0 [.val (.sl t0) P] = some (decide (60 < P.length)) :=
  callT_of (garmentlaw13_many_st P (r := [.val .bool (decide (60 < P.length))]) (by rw [show decide ((P.length : Int) > (60 : Int)) = decide (60 < P.length) from decide_eq_decide.2 (by omega)])) rfl
theorem TriangleHolds_pure (x0 : List IP) (x1 : IP) (w0 : wf (.sl t0) x0) (w1 : wf t0 x1) : CG 4 [.val (.sl t0) x0, .val t0 x1] = some [.val .bool true] := by
  refine garmentlaw13_TriangleHolds_st x0 x1 (bnd (many_ok x0) ?_)
  by_cases h : 60 < x0.length
  · exact pos (dt h) (bnd alive13_ok rfl)
  · exact neg (df h) (bnd (holds_st x0 x1) (bnd (rholds_ok x0 x1) (pos (by simp) (bnd alive13_ok rfl))))
end Pl
end
