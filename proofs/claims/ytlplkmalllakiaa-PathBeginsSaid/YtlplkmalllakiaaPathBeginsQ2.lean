/- Parts of the proof of PathBegins, joined: Eq, P1, P11, P11b, B0, C11a, C11b, R11a, L0, C11c, G1, G3, G4, G5, G6, G7, G8, G11, C43, C43b, C41a, C41b. -/
import Derived.Test.YtlplkmalllakiaaPathBeginsQ1
import Derived.KernelRfl
set_option linter.unusedVariables false
set_option linter.unusedSimpArgs false
section
/- What each function comes to: written by a program of mine; the kernel checks each. -/
namespace Pm
open Go
set_option maxRecDepth 20000
set_option linter.unusedVariables false
theorem garmentlaw41_PathBegins_st {r : R} (a0 : (List (List (Int × Int)))) (a1 : (List Int)) (a2 : Int) (h : ((callT CG [.v .bool] 102 [.val (.sl (.sl t0)) a0]).bind fun (r1 : Bool) => (if (!r1) = true then ((callT CG [.v .bool] 103 []).bind fun (r2 : Bool) => (some [.val .bool r2])) else (if (decide (((List.length a0 : Nat) : Int) > (8 : Int))) = true then ((callT CG [.v .bool] 103 []).bind fun (r3 : Bool) => (some [.val .bool r3])) else (if (((List.length a0 : Nat) : Int) == (0 : Int)) = true then ((callT CG [.v .bool] 103 []).bind fun (r4 : Bool) => (some [.val .bool r4])) else (if (decide (((List.length a1 : Nat) : Int) > (100 : Int))) = true then ((callT CG [.v .bool] 103 []).bind fun (r5 : Bool) => (some [.val .bool r5])) else (if (((List.length a0 : Nat) : Int) ≠ 0) then (if (0 ≤ (Int.tmod (wr .i64 a2) ((List.length a0 : Nat) : Int)) ∧ (Int.tmod (wr .i64 a2) ((List.length a0 : Nat) : Int)) < ((List.length a0 : Nat) : Int)) then (if (((List.length (List.getD a0 (Int.toNat (Int.tmod (wr .i64 a2) ((List.length a0 : Nat) : Int))) ([] : (List (Int × Int)))) : Nat) : Int) == (0 : Int)) = true then ((callT CG [.v .bool] 103 []).bind fun (r6 : Bool) => (some [.val .bool r6])) else (if (List.length ([] : List (List (Int × Int))) + List.length a0 < 5864062014805) then (if (0 ≤ (Int.tmod (wr .i64 a2) ((List.length a0 : Nat) : Int)) ∧ (Int.tmod (wr .i64 a2) ((List.length a0 : Nat) : Int)) < ((List.length a0 : Nat) : Int)) then (if (0 ≤ (0 : Int) ∧ (0 : Int) < ((List.length (List.getD a0 (Int.toNat (Int.tmod (wr .i64 a2) ((List.length a0 : Nat) : Int))) ([] : (List (Int × Int)))) : Nat) : Int)) then (if (0 ≤ (Int.tmod (wr .i64 a2) ((List.length a0 : Nat) : Int)) ∧ (Int.tmod (wr .i64 a2) ((List.length a0 : Nat) : Int)) < ((List.length a0 : Nat) : Int)) then ((callT CG [.v tI] 13 [.val (.sl t0) (List.getD a0 (Int.toNat (Int.tmod (wr .i64 a2) ((List.length a0 : Nat) : Int))) ([] : (List (Int × Int))))]).bind fun (r7 : Int) => (if (r7 != (0 : Int)) = true then ((callT CG [.v .bool] 103 []).bind fun (r8 : Bool) => (some [.val .bool r8])) else (if (decide ((List.getD (List.getD a0 (Int.toNat (Int.tmod (wr .i64 a2) ((List.length a0 : Nat) : Int))) ([] : (List (Int × Int)))) (Int.toNat (0 : Int)) ((0 : Int), (0 : Int))).1 ≥ (1048576 : Int))) = true then ((callT CG [.v .bool] 103 []).bind fun (r9 : Bool) => (some [.val .bool r9])) else (if (decide ((List.getD (List.getD a0 (Int.toNat (Int.tmod (wr .i64 a2) ((List.length a0 : Nat) : Int))) ([] : (List (Int × Int)))) (Int.toNat (0 : Int)) ((0 : Int), (0 : Int))).2 ≥ (1048576 : Int))) = true then ((callT CG [.v .bool] 103 []).bind fun (r10 : Bool) => (some [.val .bool r10])) else ((callT CG [.o t0] 111 [.val tI (List.getD (List.getD a0 (Int.toNat (Int.tmod (wr .i64 a2) ((List.length a0 : Nat) : Int))) ([] : (List (Int × Int)))) (Int.toNat (0 : Int)) ((0 : Int), (0 : Int))).1, .val tI (List.getD (List.getD a0 (Int.toNat (Int.tmod (wr .i64 a2) ((List.length a0 : Nat) : Int))) ([] : (List (Int × Int)))) (Int.toNat (0 : Int)) ((0 : Int), (0 : Int))).2]).bind fun (r11 : (List (Int × Int))) => (if (0 ≤ (Int.tmod (wr .i64 a2) ((List.length a0 : Nat) : Int)) ∧ (Int.tmod (wr .i64 a2) ((List.length a0 : Nat) : Int)) < ((List.length (([] : List (List (Int × Int))) ++ a0) : Nat) : Int)) then ((callT CG [.v tI, .v tI] 104 [.val (.sl (.sl t0)) a0, .val (.sl tI) a1]).bind fun (r12 : Int × Int) => ((callT CG [.v tI, .v tI] 104 [.val (.sl (.sl t0)) (List.set (([] : List (List (Int × Int))) ++ a0) (Int.toNat (Int.tmod (wr .i64 a2) ((List.length a0 : Nat) : Int))) r11), .val (.sl tI) a1]).bind fun (r13 : Int × Int) => ((callT CG [.o tI, .v tI] 108 [.val (.sl (.sl t0)) a0]).bind fun (r14 : (List Int) × Int) => ((callT CG [.o tI, .v tI] 108 [.val (.sl (.sl t0)) (List.set (([] : List (List (Int × Int))) ++ a0) (Int.toNat (Int.tmod (wr .i64 a2) ((List.length a0 : Nat) : Int))) r11)]).bind fun (r15 : (List Int) × Int) => ((callT CG [.v (.sl tI), .v tI] 109 [.val (.sl (.sl t0)) a0, .val (.sl tI) a1]).bind fun (r16 : (List Int) × Int) => ((callT CG [.v (.sl tI), .v tI] 109 [.val (.sl (.sl t0)) (List.set (([] : List (List (Int × Int))) ++ a0) (Int.toNat (Int.tmod (wr .i64 a2) ((List.length a0 : Nat) : Int))) r11), .val (.sl tI) a1]).bind fun (r17 : (List Int) × Int) => (if (r12.1 == r13.1) = true then (if (r12.2 == r13.2) = true then (if (r14.2 == r15.2) = true then (if (r16.2 == r17.2) = true then ((callT CG [.v .bool] 110 [.val (.sl tI) r14.1, .val (.sl tI) r15.1]).bind fun (r18 : Bool) => (if r18 = true then ((callT CG [.v .bool] 110 [.val (.sl tI) r16.1, .val (.sl tI) r17.1]).bind fun (r19 : Bool) => (if r19 = true then ((callT CG [.v .bool] 103 []).bind fun (r20 : Bool) => (some [.val .bool r20])) else (some [.val .bool false]))) else (some [.val .bool false]))) else (some [.val .bool false])) else (some [.val .bool false])) else (some [.val .bool false])) else (some [.val .bool false])))))))) else none)))))) else none) else none) else none) else none)) else none) else none)))))) = some r) : CG 135 [.val (.sl (.sl t0)) a0, .val (.sl tI) a1, .val (.int .u8) a2] = some r := limC_run (f := cf_garmentlaw41_PathBegins) (by kernel_rfl) (by kernel_rfl) (Eq.trans (by kernel_rfl) h)
theorem garmentlaw41_box_st {r : R} (a0 : Int) (a1 : Int) (h : (some [.own t0 ([(a0, a1), ((wr .i64 (a0 + (1 : Int))), a1), ((wr .i64 (a0 + (1 : Int))), (wr .i64 (a1 + (1 : Int)))), (a0, (wr .i64 (a1 + (1 : Int))))] : List (Int × Int))]) = some r) : CG 111 [.val tI a0, .val tI a1] = some r := limC_run (f := cf_garmentlaw41_box) (by kernel_rfl) (by kernel_rfl) (Eq.trans (by kernel_rfl) h)
noncomputable def garmentref11_Check_lp1 (C : CallF) (a0 : (List (Int × Int))) (v0 : (List (Int × Int))) (v1 : Int) : Option R := lpAt C cf_garmentref11_Check [.val (.sl t0) a0] [1, 1, 1, 0, 1, 0] [.d (.val (.sl t0) v0), .d (.undef), .d (.undef), .d (.val tI v1), .d (.undef), .d (.undef), .d (.undef), .d (.undef), .d (.undef), .d (.undef), .d (.undef), .d (.undef), .d (.undef), .d (.undef), .d (.undef), .d (.undef), .d (.undef), .d (.undef), .d (.undef), .d (.undef), .d (.undef), .d (.undef), .d (.undef), .d (.undef), .d (.undef)] (ofL [])
theorem garmentref11_Check_st {r : R} (a0 : (List (Int × Int))) (h : (if (decide (((List.length a0 : Nat) : Int) > (40 : Int))) = true then (some [.val tI (5 : Int)]) else (if (decide (((List.length a0 : Nat) : Int) < (3 : Int))) = true then (some [.val tI (11 : Int)]) else (garmentref11_Check_lp1 CG a0 a0 (0 : Int)))) = some r) : CG 67 [.val (.sl t0) a0] = some r := limC_run (f := cf_garmentref11_Check) (by kernel_rfl) (by kernel_rfl) (Eq.trans (by kernel_rfl) h)
theorem garmentref11_Check_lp1_st {C : CallF} {r : R} (a0 : (List (Int × Int))) (v0 : (List (Int × Int))) (v1 : Int) (h : (if (decide (v1 < ((List.length v0 : Nat) : Int))) = true then (if (0 ≤ v1 ∧ v1 < ((List.length v0 : Nat) : Int)) then ((callT C [.v .bool] 68 [.val t0 (List.getD v0 (Int.toNat v1) ((0 : Int), (0 : Int))), .val tI (1048576 : Int)]).bind fun (r1 : Bool) => (if (!r1) = true then (some [.val tI (3 : Int)]) else (garmentref11_Check_lp1 C a0 v0 (wr .i64 (v1 + (1 : Int)))))) else none) else ((callT C [.v .bool] 69 [.val (.sl t0) v0]).bind fun (r2 : Bool) => (if (!r2) = true then (some [.val tI (11 : Int)]) else (some [.val tI (0 : Int)])))) = some r) : garmentref11_Check_lp1 C a0 v0 v1 = some r := lpAt_of (Eq.trans (by kernel_rfl) h)
theorem garmentref11_Cross_st {r : R} (a0 : (Int × Int)) (a1 : (Int × Int)) (a2 : (Int × Int)) (h : (some [.val tI (wr .i64 ((wr .i64 ((wr .i64 (a1.1 - a0.1)) * (wr .i64 (a2.2 - a0.2)))) - (wr .i64 ((wr .i64 (a1.2 - a0.2)) * (wr .i64 (a2.1 - a0.1))))))]) = some r) : CG 33 [.val t0 a0, .val t0 a1, .val t0 a2] = some r := limC_run (f := cf_garmentref11_Cross) (by kernel_rfl) (by kernel_rfl) (Eq.trans (by kernel_rfl) h)
theorem garmentref11_Within_st {r : R} (a0 : (Int × Int)) (a1 : Int) (h : (if (decide (a0.1 ≥ (wr .i64 (0 - a1)))) = true then (if (decide (a0.1 ≤ a1)) = true then (if (decide (a0.2 ≥ (wr .i64 (0 - a1)))) = true then (some [.val .bool (decide (a0.2 ≤ a1))]) else (some [.val .bool false])) else (some [.val .bool false])) else (some [.val .bool false])) = some r) : CG 68 [.val t0 a0, .val tI a1] = some r := limC_run (f := cf_garmentref11_Within) (by kernel_rfl) (by kernel_rfl) (Eq.trans (by kernel_rfl) h)
noncomputable def garmentref11_simple_lp1 (C : CallF) (a0 : (List (Int × Int))) (v0 : (List (Int × Int))) (v1 : Int) (v2 : Int) : Option R := lpAt C cf_garmentref11_simple [.val (.sl t0) a0] [1, 1, 0, 1, 0] [.d (.val (.sl t0) v0), .d (.undef), .d (.undef), .d (.val tI v1), .d (.val tI v2), .d (.undef), .d (.undef), .d (.undef), .d (.undef), .d (.undef), .d (.undef), .d (.undef), .d (.undef), .d (.undef), .d (.undef), .d (.undef), .d (.undef), .d (.undef), .d (.undef), .d (.undef), .d (.undef), .d (.undef), .d (.undef), .d (.undef), .d (.undef), .d (.undef), .d (.undef), .d (.undef), .d (.undef), .d (.undef), .d (.undef), .d (.undef), .d (.undef), .d (.undef), .d (.undef), .d (.undef), .d (.undef), .d (.undef), .d (.undef), .d (.undef), .d (.undef), .d (.undef), .d (.undef), .d (.undef), .d (.undef), .d (.undef), .d (.undef), .d (.undef), .d (.undef), .d (.undef), .d (.undef), .d (.undef), .d (.undef), .d (.undef), .d (.undef), .d (.undef), .d (.undef), .d (.undef), .d (.undef), .d (.undef), .d (.undef), .d (.undef), .d (.undef), .d (.undef), .d (.undef), .d (.undef), .d (.undef), .d (.undef), .d (.undef), .d (.undef), .d (.undef), .d (.undef), .d (.undef), .d (.undef), .d (.undef), .d (.undef), .d (.undef), .d (.undef)] (ofL [])
noncomputable def garmentref11_simple_lp2 (C : CallF) (a0 : (List (Int × Int))) (v0 : (List (Int × Int))) (v1 : Int) (v2 : Int) (v3 : Int) (v4 : (Int × Int)) (v5 : (Int × Int)) : Option R := lpAt C cf_garmentref11_simple [.val (.sl t0) a0] [1, 1, 0, 1, 0, 0, 1, 0, 0, 1, 1, 1, 1, 0] [.d (.val (.sl t0) v0), .d (.undef), .d (.undef), .d (.val tI v1), .d (.val tI v2), .d (.ptr 200000 0 []), .d (.ptr 200001 0 []), .d (.undef), .d (.val tI v3), .d (.undef), .d (.undef), .d (.undef), .d (.undef), .d (.undef), .d (.undef), .d (.undef), .d (.undef), .d (.undef), .d (.undef), .d (.undef), .d (.undef), .d (.undef), .d (.undef), .d (.undef), .d (.undef), .d (.undef), .d (.undef), .d (.undef), .d (.undef), .d (.undef), .d (.undef), .d (.undef), .d (.undef), .d (.undef), .d (.undef), .d (.undef), .d (.undef), .d (.undef), .d (.undef), .d (.undef), .d (.undef), .d (.undef), .d (.undef), .d (.undef), .d (.undef), .d (.undef), .d (.undef), .d (.undef), .d (.undef), .d (.undef), .d (.undef), .d (.undef), .d (.undef), .d (.undef), .d (.undef), .d (.undef), .d (.undef), .d (.undef), .d (.undef), .d (.undef), .d (.undef), .d (.undef), .d (.undef), .d (.undef), .d (.undef), .d (.undef), .d (.undef), .d (.undef), .d (.undef), .d (.undef), .d (.undef), .d (.undef), .d (.undef), .d (.undef), .d (.undef), .d (.undef), .d (.undef), .d (.undef)] (ofL [(200000, .box t0 (.val t0 v4)), (200001, .box t0 (.val t0 v5))])
theorem garmentref11_simple_st {r : R} (a0 : (List (Int × Int))) (h : (garmentref11_simple_lp1 CG a0 a0 ((List.length a0 : Nat) : Int) (0 : Int)) = some r) : CG 69 [.val (.sl t0) a0] = some r := limC_run (f := cf_garmentref11_simple) (by kernel_rfl) (by kernel_rfl) (Eq.trans (by kernel_rfl) h)
theorem garmentref11_simple_lp1_st {C : CallF} {r : R} (a0 : (List (Int × Int))) (v0 : (List (Int × Int))) (v1 : Int) (v2 : Int) (h : (if (decide (v2 < v1)) = true then (if (0 ≤ v2 ∧ v2 < ((List.length v0 : Nat) : Int)) then (if (v1 ≠ 0) then (if (0 ≤ (Int.tmod (wr .i64 (v2 + (1 : Int))) v1) ∧ (Int.tmod (wr .i64 (v2 + (1 : Int))) v1) < ((List.length v0 : Nat) : Int)) then (if (v1 ≠ 0) then (if (0 ≤ (Int.tmod (wr .i64 (v2 + (2 : Int))) v1) ∧ (Int.tmod (wr .i64 (v2 + (2 : Int))) v1) < ((List.length v0 : Nat) : Int)) then (if (((List.getD v0 (Int.toNat v2) ((0 : Int), (0 : Int))).1 == (List.getD v0 (Int.toNat (Int.tmod (wr .i64 (v2 + (1 : Int))) v1)) ((0 : Int), (0 : Int))).1) && ((List.getD v0 (Int.toNat v2) ((0 : Int), (0 : Int))).2 == (List.getD v0 (Int.toNat (Int.tmod (wr .i64 (v2 + (1 : Int))) v1)) ((0 : Int), (0 : Int))).2)) = true then (some [.val .bool false]) else ((callT C [.v .bool] 70 [.val t0 (List.getD v0 (Int.toNat v2) ((0 : Int), (0 : Int))), .val t0 (List.getD v0 (Int.toNat (Int.tmod (wr .i64 (v2 + (1 : Int))) v1)) ((0 : Int), (0 : Int))), .val t0 (List.getD v0 (Int.toNat (Int.tmod (wr .i64 (v2 + (2 : Int))) v1)) ((0 : Int), (0 : Int)))]).bind fun (r1 : Bool) => (if r1 = true then (some [.val .bool false]) else ((callT C [.v .bool] 70 [.val t0 (List.getD v0 (Int.toNat (Int.tmod (wr .i64 (v2 + (1 : Int))) v1)) ((0 : Int), (0 : Int))), .val t0 (List.getD v0 (Int.toNat (Int.tmod (wr .i64 (v2 + (2 : Int))) v1)) ((0 : Int), (0 : Int))), .val t0 (List.getD v0 (Int.toNat v2) ((0 : Int), (0 : Int)))]).bind fun (r2 : Bool) => (if r2 = true then (some [.val .bool false]) else (garmentref11_simple_lp2 C a0 v0 v1 v2 (wr .i64 (v2 + (2 : Int))) (List.getD v0 (Int.toNat v2) ((0 : Int), (0 : Int))) (List.getD v0 (Int.toNat (Int.tmod (wr .i64 (v2 + (1 : Int))) v1)) ((0 : Int), (0 : Int))))))))) else none) else none) else none) else none) else none) else (some [.val .bool true])) = some r) : garmentref11_simple_lp1 C a0 v0 v1 v2 = some r := lpAt_of (Eq.trans (by kernel_rfl) h)
theorem garmentref11_simple_lp2_st {C : CallF} {r : R} (a0 : (List (Int × Int))) (v0 : (List (Int × Int))) (v1 : Int) (v2 : Int) (v3 : Int) (v4 : (Int × Int)) (v5 : (Int × Int)) (h : (if (decide (v3 < v1)) = true then (if (v1 ≠ 0) then (if ((Int.tmod (wr .i64 (v3 + (1 : Int))) v1) != v2) = true then (if (0 ≤ v3 ∧ v3 < ((List.length v0 : Nat) : Int)) then (if (v1 ≠ 0) then (if (0 ≤ (Int.tmod (wr .i64 (v3 + (1 : Int))) v1) ∧ (Int.tmod (wr .i64 (v3 + (1 : Int))) v1) < ((List.length v0 : Nat) : Int)) then ((callT C [.v .bool] 71 [.val t0 v4, .val t0 v5, .val t0 (List.getD v0 (Int.toNat v3) ((0 : Int), (0 : Int))), .val t0 (List.getD v0 (Int.toNat (Int.tmod (wr .i64 (v3 + (1 : Int))) v1)) ((0 : Int), (0 : Int)))]).bind fun (r1 : Bool) => (if r1 = true then (some [.val .bool false]) else (garmentref11_simple_lp2 C a0 v0 v1 v2 (wr .i64 (v3 + (1 : Int))) v4 v5))) else none) else none) else none) else (garmentref11_simple_lp2 C a0 v0 v1 v2 (wr .i64 (v3 + (1 : Int))) v4 v5)) else none) else (garmentref11_simple_lp1 C a0 v0 v1 (wr .i64 (v2 + (1 : Int))))) = some r) : garmentref11_simple_lp2 C a0 v0 v1 v2 v3 v4 v5 = some r := lpAt_of (Eq.trans (by kernel_rfl) h)
theorem garmentref11_Between_st {r : R} (a0 : (Int × Int)) (a1 : (Int × Int)) (a2 : (Int × Int)) (h : ((callT CG [.v tI] 33 [.val t0 a0, .val t0 a1, .val t0 a2]).bind fun (r1 : Int) => (if (r1 == (0 : Int)) = true then (if (decide ((if a1.1 < a0.1 then a1.1 else a0.1) ≤ a2.1)) = true then (if (decide (a2.1 ≤ (if a1.1 > a0.1 then a1.1 else a0.1))) = true then (if (decide ((if a1.2 < a0.2 then a1.2 else a0.2) ≤ a2.2)) = true then (some [.val .bool (decide (a2.2 ≤ (if a1.2 > a0.2 then a1.2 else a0.2)))]) else (some [.val .bool false])) else (some [.val .bool false])) else (some [.val .bool false])) else (some [.val .bool false]))) = some r) : CG 70 [.val t0 a0, .val t0 a1, .val t0 a2] = some r := limC_run (f := cf_garmentref11_Between) (by kernel_rfl) (by kernel_rfl) (Eq.trans (by kernel_rfl) h)
theorem garmentref11_meet_st {r : R} (a0 : (Int × Int)) (a1 : (Int × Int)) (a2 : (Int × Int)) (a3 : (Int × Int)) (h : ((callT CG [.v .bool] 70 [.val t0 a0, .val t0 a1, .val t0 a2]).bind fun (r1 : Bool) => (if r1 = true then (some [.val .bool true]) else ((callT CG [.v .bool] 70 [.val t0 a0, .val t0 a1, .val t0 a3]).bind fun (r2 : Bool) => (if r2 = true then (some [.val .bool true]) else ((callT CG [.v .bool] 70 [.val t0 a2, .val t0 a3, .val t0 a0]).bind fun (r3 : Bool) => (if r3 = true then (some [.val .bool true]) else ((callT CG [.v .bool] 70 [.val t0 a2, .val t0 a3, .val t0 a1]).bind fun (r4 : Bool) => (if r4 = true then (some [.val .bool true]) else ((callT CG [.v tI] 33 [.val t0 a0, .val t0 a1, .val t0 a2]).bind fun (r5 : Int) => ((callT CG [.v tI] 72 [.val tI r5]).bind fun (r6 : Int) => ((callT CG [.v tI] 33 [.val t0 a0, .val t0 a1, .val t0 a3]).bind fun (r7 : Int) => ((callT CG [.v tI] 72 [.val tI r7]).bind fun (r8 : Int) => (if (decide ((wr .i64 (r6 * r8)) < (0 : Int))) = true then ((callT CG [.v tI] 33 [.val t0 a2, .val t0 a3, .val t0 a0]).bind fun (r9 : Int) => ((callT CG [.v tI] 72 [.val tI r9]).bind fun (r10 : Int) => ((callT CG [.v tI] 33 [.val t0 a2, .val t0 a3, .val t0 a1]).bind fun (r11 : Int) => ((callT CG [.v tI] 72 [.val tI r11]).bind fun (r12 : Int) => (some [.val .bool (decide ((wr .i64 (r10 * r12)) < (0 : Int)))]))))) else (some [.val .bool false])))))))))))))) = some r) : CG 71 [.val t0 a0, .val t0 a1, .val t0 a2, .val t0 a3] = some r := limC_run (f := cf_garmentref11_meet) (by kernel_rfl) (by kernel_rfl) (Eq.trans (by kernel_rfl) h)
theorem garmentref11_sign_st {r : R} (a0 : Int) (h : (if (decide (a0 > (0 : Int))) = true then (some [.val tI (1 : Int)]) else (if (decide (a0 < (0 : Int))) = true then (some [.val tI ((-1) : Int)]) else (some [.val tI (0 : Int)]))) = some r) : CG 72 [.val tI a0] = some r := limC_run (f := cf_garmentref11_sign) (by kernel_rfl) (by kernel_rfl) (Eq.trans (by kernel_rfl) h)
noncomputable def garmentref21_SameInts_lp1 (C : CallF) (a0 : (List Int)) (a1 : (List Int)) (v0 : (List Int)) (v1 : (List Int)) (v2 : Int) : Option R := lpAt C cf_garmentref21_SameInts [.val (.sl tI) a0, .val (.sl tI) a1] [1, 1, 0, 1, 0] [.d (.val (.sl tI) v0), .d (.val (.sl tI) v1), .d (.undef), .d (.undef), .d (.undef), .d (.val tI v2), .d (.undef), .d (.undef), .d (.undef), .d (.undef), .d (.undef), .d (.undef), .d (.undef), .d (.undef), .d (.undef), .d (.undef), .d (.undef), .d (.undef), .d (.undef), .d (.undef), .d (.undef), .d (.undef), .d (.undef), .d (.undef), .d (.undef), .d (.undef)] (ofL [])
theorem garmentref21_SameInts_st {r : R} (a0 : (List Int)) (a1 : (List Int)) (h : (if (((List.length a0 : Nat) : Int) != ((List.length a1 : Nat) : Int)) = true then (some [.val .bool false]) else (garmentref21_SameInts_lp1 CG a0 a1 a0 a1 (0 : Int))) = some r) : CG 110 [.val (.sl tI) a0, .val (.sl tI) a1] = some r := limC_run (f := cf_garmentref21_SameInts) (by kernel_rfl) (by kernel_rfl) (Eq.trans (by kernel_rfl) h)
theorem garmentref21_SameInts_lp1_st {C : CallF} {r : R} (a0 : (List Int)) (a1 : (List Int)) (v0 : (List Int)) (v1 : (List Int)) (v2 : Int) (h : (if (decide (v2 < ((List.length v0 : Nat) : Int))) = true then (if (0 ≤ v2 ∧ v2 < ((List.length v0 : Nat) : Int)) then (if (0 ≤ v2 ∧ v2 < ((List.length v1 : Nat) : Int)) then (if ((List.getD v0 (Int.toNat v2) (0 : Int)) != (List.getD v1 (Int.toNat v2) (0 : Int))) = true then (some [.val .bool false]) else (garmentref21_SameInts_lp1 C a0 a1 v0 v1 (wr .i64 (v2 + (1 : Int))))) else none) else none) else (some [.val .bool true])) = some r) : garmentref21_SameInts_lp1 C a0 a1 v0 v1 v2 = some r := lpAt_of (Eq.trans (by kernel_rfl) h)
noncomputable def garmentref41_Light_lp1 (C : CallF) (a0 : (List (List (Int × Int)))) (v0 : (List (List (Int × Int)))) (v1 : Int) : Option R := lpAt C cf_garmentref41_Light [.val (.sl (.sl t0)) a0] [1, 0, 1, 0] [.d (.val (.sl (.sl t0)) v0), .d (.undef), .d (.undef), .d (.val tI v1), .d (.undef), .d (.undef), .d (.undef), .d (.undef), .d (.undef), .d (.undef), .d (.undef), .d (.undef), .d (.undef), .d (.undef), .d (.undef), .d (.undef), .d (.undef), .d (.undef), .d (.undef), .d (.undef), .d (.undef), .d (.undef), .d (.undef)] (ofL [])
theorem garmentref41_Light_st {r : R} (a0 : (List (List (Int × Int)))) (h : (garmentref41_Light_lp1 CG a0 a0 (0 : Int)) = some r) : CG 102 [.val (.sl (.sl t0)) a0] = some r := limC_run (f := cf_garmentref41_Light) (by kernel_rfl) (by kernel_rfl) (Eq.trans (by kernel_rfl) h)
theorem garmentref41_Light_lp1_st {C : CallF} {r : R} (a0 : (List (List (Int × Int)))) (v0 : (List (List (Int × Int)))) (v1 : Int) (h : (if (decide (v1 < ((List.length v0 : Nat) : Int))) = true then (if (decide (v1 < (70 : Int))) = true then (if (0 ≤ v1 ∧ v1 < ((List.length v0 : Nat) : Int)) then (if (decide (((List.length (List.getD v0 (Int.toNat v1) ([] : (List (Int × Int)))) : Nat) : Int) > (60 : Int))) = true then (some [.val .bool false]) else (garmentref41_Light_lp1 C a0 v0 (wr .i64 (v1 + (1 : Int))))) else none) else (some [.val .bool (decide (((List.length v0 : Nat) : Int) ≤ (70 : Int)))])) else (some [.val .bool (decide (((List.length v0 : Nat) : Int) ≤ (70 : Int)))])) = some r) : garmentref41_Light_lp1 C a0 v0 v1 = some r := lpAt_of (Eq.trans (by kernel_rfl) h)
noncomputable def path_Travel_lp1 (C : CallF) (a0 : (List (List (Int × Int)))) (a1 : (List Int)) (v0 : (List (List (Int × Int)))) (v1 : Int) (v2 : (List Int)) (v3 : Int) (v4 : Int) (v5 : (Int × Int)) : Option R := lpAt C cf_path_Travel [.val (.sl (.sl t0)) a0, .val (.sl tI) a1] [1, 1, 1, 1, 0, 1, 0] [.d (.val (.sl (.sl t0)) v0), .d (.undef), .d (.undef), .d (.undef), .d (.undef), .d (.undef), .d (.undef), .d (.ptr 100000 0 []), .d (.val tI v1), .d (.undef), .d (.undef), .d (.undef), .d (.undef), .d (.undef), .d (.undef), .d (.undef), .d (.undef), .d (.val (.sl tI) v2), .d (.val tI v3), .d (.val tI v4), .d (.undef), .d (.undef), .d (.undef), .d (.undef), .d (.undef), .d (.undef), .d (.undef), .d (.undef), .d (.undef), .d (.undef), .d (.undef), .d (.undef), .d (.undef), .d (.undef), .d (.undef), .d (.undef), .d (.undef), .d (.undef), .d (.undef), .d (.undef), .d (.undef)] (ofL [(100000, .box t0 (.val t0 v5))])
theorem path_Travel_st {r : R} (a0 : (List (List (Int × Int)))) (a1 : (List Int)) (h : ((callT CG [.v tI] 112 [.val (.sl (.sl t0)) a0, .val (.sl tI) a1]).bind fun (r1 : Int) => (if (r1 != (0 : Int)) = true then (some [.val tI (0 : Int), .val tI r1]) else (path_Travel_lp1 CG a0 a1 a0 (0 : Int) a1 ((List.length a1 : Nat) : Int) (0 : Int) ((0 : Int), (0 : Int))))) = some r) : CG 104 [.val (.sl (.sl t0)) a0, .val (.sl tI) a1] = some r := limC_run (f := cf_path_Travel) (by kernel_rfl) (by kernel_rfl) (Eq.trans (by kernel_rfl) h)
theorem path_Travel_lp1_st {C : CallF} {r : R} (a0 : (List (List (Int × Int)))) (a1 : (List Int)) (v0 : (List (List (Int × Int)))) (v1 : Int) (v2 : (List Int)) (v3 : Int) (v4 : Int) (v5 : (Int × Int)) (h : (if (decide (v4 < v3)) = true then (if (0 ≤ v4 ∧ v4 < ((List.length v2 : Nat) : Int)) then (if (0 ≤ (List.getD v2 (Int.toNat v4) (0 : Int)) ∧ (List.getD v2 (Int.toNat v4) (0 : Int)) < ((List.length v0 : Nat) : Int)) then (if (0 ≤ (0 : Int) ∧ (0 : Int) < ((List.length (List.getD v0 (Int.toNat (List.getD v2 (Int.toNat v4) (0 : Int))) ([] : (List (Int × Int)))) : Nat) : Int)) then ((callT C [.v tI] 113 [.val t0 v5, .val t0 (List.getD (List.getD v0 (Int.toNat (List.getD v2 (Int.toNat v4) (0 : Int))) ([] : (List (Int × Int)))) (Int.toNat (0 : Int)) ((0 : Int), (0 : Int)))]).bind fun (r1 : Int) => (if (0 ≤ (List.getD v2 (Int.toNat v4) (0 : Int)) ∧ (List.getD v2 (Int.toNat v4) (0 : Int)) < ((List.length v0 : Nat) : Int)) then (if (0 ≤ (0 : Int) ∧ (0 : Int) < ((List.length (List.getD v0 (Int.toNat (List.getD v2 (Int.toNat v4) (0 : Int))) ([] : (List (Int × Int)))) : Nat) : Int)) then (path_Travel_lp1 C a0 a1 v0 (wr .i64 (v1 + r1)) v2 v3 (wr .i64 (v4 + (1 : Int))) (List.getD (List.getD v0 (Int.toNat (List.getD v2 (Int.toNat v4) (0 : Int))) ([] : (List (Int × Int)))) (Int.toNat (0 : Int)) ((0 : Int), (0 : Int)))) else none) else none)) else none) else none) else none) else (some [.val tI v1, .val tI (0 : Int)])) = some r) : path_Travel_lp1 C a0 a1 v0 v1 v2 v3 v4 v5 = some r := lpAt_of (Eq.trans (by kernel_rfl) h)
noncomputable def path_Greedy_lp1 (C : CallF) (a0 : (List (List (Int × Int)))) (v0 : (List (List (Int × Int)))) (v1 : Int) (v2 : Int) (v3 : (Int × Int)) (v4 : (List Int)) : Option R := lpAt C cf_path_Greedy [.val (.sl (.sl t0)) a0] [1, 1, 1, 1, 0, 1, 0] [.d (.val (.sl (.sl t0)) v0), .d (.undef), .d (.undef), .d (.undef), .d (.undef), .d (.ptr 100000 0 []), .d (.ref 100001), .d (.undef), .d (.undef), .d (.undef), .d (.undef), .d (.undef), .d (.undef), .d (.undef), .d (.undef), .d (.val tI v1), .d (.val tI v2), .d (.undef), .d (.undef), .d (.undef), .d (.undef), .d (.undef), .d (.undef), .d (.undef), .d (.undef), .d (.undef), .d (.undef), .d (.undef), .d (.undef), .d (.undef), .d (.undef), .d (.undef), .d (.undef), .d (.undef), .d (.undef), .d (.undef), .d (.undef), .d (.undef), .d (.undef), .d (.undef), .d (.undef), .d (.undef), .d (.undef), .d (.undef), .d (.undef), .d (.undef), .d (.undef), .d (.undef), .d (.undef), .d (.undef), .d (.undef), .d (.undef), .d (.undef), .d (.undef), .d (.undef), .d (.undef), .d (.undef), .d (.undef), .d (.undef), .d (.undef), .d (.undef)] (ofL [(100000, .box t0 (.val t0 v3)), (100001, .arr tI v4 .lv)])
noncomputable def path_Greedy_lp2 (C : CallF) (a0 : (List (List (Int × Int)))) (v0 : (List (List (Int × Int)))) (v1 : Int) (v2 : Int) (v3 : Int) (v4 : Int) (v5 : Int) (v6 : (Int × Int)) (v7 : (List Int)) : Option R := lpAt C cf_path_Greedy [.val (.sl (.sl t0)) a0] [1, 1, 1, 1, 0, 1, 0, 0, 1, 1, 0, 0, 1, 0, 1, 0] [.d (.val (.sl (.sl t0)) v0), .d (.undef), .d (.undef), .d (.undef), .d (.undef), .d (.ptr 200000 0 []), .d (.ref 200001), .d (.val tI v1), .d (.undef), .d (.undef), .d (.undef), .d (.undef), .d (.undef), .d (.undef), .d (.undef), .d (.val tI v2), .d (.val tI v3), .d (.undef), .d (.undef), .d (.val tI v4), .d (.val tI v5), .d (.undef), .d (.undef), .d (.undef), .d (.undef), .d (.undef), .d (.undef), .d (.undef), .d (.undef), .d (.undef), .d (.undef), .d (.undef), .d (.undef), .d (.undef), .d (.undef), .d (.undef), .d (.undef), .d (.undef), .d (.undef), .d (.undef), .d (.undef), .d (.undef), .d (.undef), .d (.undef), .d (.undef), .d (.undef), .d (.undef), .d (.undef), .d (.undef), .d (.undef), .d (.undef), .d (.undef), .d (.undef), .d (.undef), .d (.undef), .d (.undef), .d (.undef), .d (.undef), .d (.undef), .d (.undef), .d (.undef)] (ofL [(200000, .box t0 (.val t0 v6)), (200001, .arr tI v7 .lv)])
theorem path_Greedy_st {r : R} (a0 : (List (List (Int × Int)))) (h : ((callT CG [.v tI] 114 [.val (.sl (.sl t0)) a0]).bind fun (r1 : Int) => (if (r1 != (0 : Int)) = true then (some [.own tI ([] : List Int), .val tI r1]) else (path_Greedy_lp1 CG a0 a0 ((List.length a0 : Nat) : Int) (0 : Int) ((0 : Int), (0 : Int)) ([] : List Int)))) = some r) : CG 108 [.val (.sl (.sl t0)) a0] = some r := limC_run (f := cf_path_Greedy) (by kernel_rfl) (by kernel_rfl) (Eq.trans (by kernel_rfl) h)
theorem path_Greedy_lp1_st {C : CallF} {r : R} (a0 : (List (List (Int × Int)))) (v0 : (List (List (Int × Int)))) (v1 : Int) (v2 : Int) (v3 : (Int × Int)) (v4 : (List Int)) (h : (if (decide (v2 < v1)) = true then (path_Greedy_lp2 C a0 v0 ((-1) : Int) v1 v2 ((List.length v0 : Nat) : Int) (0 : Int) v3 v4) else (some [.own tI v4, .val tI (0 : Int)])) = some r) : path_Greedy_lp1 C a0 v0 v1 v2 v3 v4 = some r := lpAt_of (Eq.trans (by kernel_rfl) h)
theorem path_Greedy_lp2_st {C : CallF} {r : R} (a0 : (List (List (Int × Int)))) (v0 : (List (List (Int × Int)))) (v1 : Int) (v2 : Int) (v3 : Int) (v4 : Int) (v5 : Int) (v6 : (Int × Int)) (v7 : (List Int)) (h : (if (decide (v5 < v4)) = true then ((callT C [.v .bool] 115 [.val (.sl tI) v7, .val tI v5]).bind fun (r1 : Bool) => (if r1 = true then (path_Greedy_lp2 C a0 v0 v1 v2 v3 v4 (wr .i64 (v5 + (1 : Int))) v6 v7) else (if (decide (v1 < (0 : Int))) = true then (path_Greedy_lp2 C a0 v0 v5 v2 v3 v4 (wr .i64 (v5 + (1 : Int))) v6 v7) else (if (0 ≤ v5 ∧ v5 < ((List.length v0 : Nat) : Int)) then (if (0 ≤ (0 : Int) ∧ (0 : Int) < ((List.length (List.getD v0 (Int.toNat v5) ([] : (List (Int × Int)))) : Nat) : Int)) then ((callT C [.v tI] 113 [.val t0 v6, .val t0 (List.getD (List.getD v0 (Int.toNat v5) ([] : (List (Int × Int)))) (Int.toNat (0 : Int)) ((0 : Int), (0 : Int)))]).bind fun (r2 : Int) => (if (0 ≤ v1 ∧ v1 < ((List.length v0 : Nat) : Int)) then (if (0 ≤ (0 : Int) ∧ (0 : Int) < ((List.length (List.getD v0 (Int.toNat v1) ([] : (List (Int × Int)))) : Nat) : Int)) then ((callT C [.v tI] 113 [.val t0 v6, .val t0 (List.getD (List.getD v0 (Int.toNat v1) ([] : (List (Int × Int)))) (Int.toNat (0 : Int)) ((0 : Int), (0 : Int)))]).bind fun (r3 : Int) => (if (decide (r2 < r3)) = true then (path_Greedy_lp2 C a0 v0 v5 v2 v3 v4 (wr .i64 (v5 + (1 : Int))) v6 v7) else (path_Greedy_lp2 C a0 v0 v1 v2 v3 v4 (wr .i64 (v5 + (1 : Int))) v6 v7))) else none) else none)) else none) else none)))) else (if (List.length v7 + List.length ([v1] : List Int) < 17592186044416) then (if (0 ≤ v1 ∧ v1 < ((List.length v0 : Nat) : Int)) then (if (0 ≤ (0 : Int) ∧ (0 : Int) < ((List.length (List.getD v0 (Int.toNat v1) ([] : (List (Int × Int)))) : Nat) : Int)) then (path_Greedy_lp1 C a0 v0 v2 (wr .i64 (v3 + (1 : Int))) (List.getD (List.getD v0 (Int.toNat v1) ([] : (List (Int × Int)))) (Int.toNat (0 : Int)) ((0 : Int), (0 : Int))) (v7 ++ ([v1] : List Int))) else none) else none) else none)) = some r) : path_Greedy_lp2 C a0 v0 v1 v2 v3 v4 v5 v6 v7 = some r := lpAt_of (Eq.trans (by kernel_rfl) h)
noncomputable def path_Improve_lp1 (C : CallF) (a0 : (List (List (Int × Int)))) (a1 : (List Int)) (v0 : (List (List (Int × Int)))) (v1 : Int) (v2 : (List Int)) : Option R := lpAt C cf_path_Improve [.val (.sl (.sl t0)) a0, .val (.sl tI) a1] [1, 1, 1, 0, 1, 0] [.d (.val (.sl (.sl t0)) v0), .d (.undef), .d (.undef), .d (.undef), .d (.undef), .d (.undef), .d (.undef), .d (.ref 100000), .d (.undef), .d (.undef), .d (.undef), .d (.undef), .d (.undef), .d (.undef), .d (.undef), .d (.undef), .d (.undef), .d (.undef), .d (.val tI v1), .d (.undef), .d (.undef), .d (.undef), .d (.undef), .d (.undef), .d (.undef), .d (.undef), .d (.undef), .d (.undef), .d (.undef), .d (.undef), .d (.undef)] (ofL [(100000, .arr tI v2 .lv)])
noncomputable def path_Improve_lp2 (C : CallF) (a0 : (List (List (Int × Int)))) (a1 : (List Int)) (v0 : (List (List (Int × Int)))) (v1 : (List Int)) (v2 : Int) : Option R := lpAt C cf_path_Improve [.val (.sl (.sl t0)) a0, .val (.sl tI) a1] [1, 1, 1, 0, 1, 0] [.d (.val (.sl (.sl t0)) v0), .d (.undef), .d (.undef), .d (.undef), .d (.undef), .d (.undef), .d (.undef), .d (.val (.sl tI) v1), .d (.undef), .d (.undef), .d (.undef), .d (.undef), .d (.undef), .d (.undef), .d (.undef), .d (.undef), .d (.undef), .d (.undef), .d (.val tI v2), .d (.undef), .d (.undef), .d (.undef), .d (.undef), .d (.undef), .d (.undef), .d (.undef), .d (.undef), .d (.undef), .d (.undef), .d (.undef), .d (.undef)] (ofL [])
theorem path_Improve_st {r : R} (a0 : (List (List (Int × Int)))) (a1 : (List Int)) (h : ((callT CG [.v tI] 112 [.val (.sl (.sl t0)) a0, .val (.sl tI) a1]).bind fun (r1 : Int) => (if (r1 != (0 : Int)) = true then (some [.val (.sl tI) ([] : List Int), .val tI r1]) else ((callT CG [.o tI] 62 [.val (.sl tI) a1]).bind fun (r2 : (List Int)) => (path_Improve_lp1 CG a0 a1 a0 (0 : Int) r2)))) = some r) : CG 109 [.val (.sl (.sl t0)) a0, .val (.sl tI) a1] = some r := limC_run (f := cf_path_Improve) (by kernel_rfl) (by kernel_rfl) (Eq.trans (by kernel_rfl) h)
theorem path_Improve_lp1_st {C : CallF} {r : R} (a0 : (List (List (Int × Int)))) (a1 : (List Int)) (v0 : (List (List (Int × Int)))) (v1 : Int) (v2 : (List Int)) (h : (if (decide (v1 < (1000 : Int))) = true then ((callT C [.v (.sl tI), .v .bool] 117 [.val (.sl (.sl t0)) v0, .val (.sl tI) v2]).bind fun (r1 : (List Int) × Bool) => (if (!r1.2) = true then (some [.val (.sl tI) v2, .val tI (0 : Int)]) else (path_Improve_lp2 C a0 a1 v0 r1.1 (wr .i64 (v1 + (1 : Int)))))) else (some [.val (.sl tI) v2, .val tI (0 : Int)])) = some r) : path_Improve_lp1 C a0 a1 v0 v1 v2 = some r := lpAt_of (Eq.trans (by kernel_rfl) h)
theorem path_Improve_lp2_st {C : CallF} {r : R} (a0 : (List (List (Int × Int)))) (a1 : (List Int)) (v0 : (List (List (Int × Int)))) (v1 : (List Int)) (v2 : Int) (h : (if (decide (v2 < (1000 : Int))) = true then ((callT C [.v (.sl tI), .v .bool] 117 [.val (.sl (.sl t0)) v0, .val (.sl tI) v1]).bind fun (r1 : (List Int) × Bool) => (if (!r1.2) = true then (some [.val (.sl tI) v1, .val tI (0 : Int)]) else (path_Improve_lp2 C a0 a1 v0 r1.1 (wr .i64 (v2 + (1 : Int)))))) else (some [.val (.sl tI) v1, .val tI (0 : Int)])) = some r) : path_Improve_lp2 C a0 a1 v0 v1 v2 = some r := lpAt_of (Eq.trans (by kernel_rfl) h)
noncomputable def path_valid_lp1 (C : CallF) (a0 : (List (List (Int × Int)))) (a1 : (List Int)) (v0 : (List (List (Int × Int)))) (v1 : (List Int)) (v2 : Int) (v3 : Int) (v4 : (List Bool)) : Option R := lpAt C cf_path_valid [.val (.sl (.sl t0)) a0, .val (.sl tI) a1] [1, 1, 1, 1, 0, 1, 0] [.d (.val (.sl (.sl t0)) v0), .d (.undef), .d (.undef), .d (.undef), .d (.undef), .d (.undef), .d (.ref 100000), .d (.undef), .d (.undef), .d (.undef), .d (.undef), .d (.undef), .d (.undef), .d (.undef), .d (.undef), .d (.undef), .d (.undef), .d (.undef), .d (.undef), .d (.undef), .d (.undef), .d (.undef), .d (.val (.sl tI) v1), .d (.val tI v2), .d (.val tI v3), .d (.undef), .d (.undef), .d (.undef), .d (.undef), .d (.undef), .d (.undef), .d (.undef), .d (.undef), .d (.undef), .d (.undef), .d (.undef), .d (.undef), .d (.undef), .d (.undef), .d (.undef), .d (.undef), .d (.undef), .d (.undef), .d (.undef), .d (.undef), .d (.undef)] (ofL [(100000, .arr .bool v4 .lv)])
theorem path_valid_st {r : R} (a0 : (List (List (Int × Int)))) (a1 : (List Int)) (h : ((callT CG [.v tI] 114 [.val (.sl (.sl t0)) a0]).bind fun (r1 : Int) => (if (r1 != (0 : Int)) = true then (some [.val tI r1]) else (if (((List.length a1 : Nat) : Int) != ((List.length a0 : Nat) : Int)) = true then (some [.val tI (1 : Int)]) else (if (0 ≤ ((List.length a0 : Nat) : Int) ∧ ((List.length a0 : Nat) : Int) ≤ ((List.length a0 : Nat) : Int) ∧ ((List.length a0 : Nat) : Int) ≤ ((281474976710656 : Nat) : Int)) then (path_valid_lp1 CG a0 a1 a0 a1 ((List.length a1 : Nat) : Int) (0 : Int) (List.replicate (Int.toNat ((List.length a0 : Nat) : Int)) false)) else none)))) = some r) : CG 112 [.val (.sl (.sl t0)) a0, .val (.sl tI) a1] = some r := limC_run (f := cf_path_valid) (by kernel_rfl) (by kernel_rfl) (Eq.trans (by kernel_rfl) h)
theorem path_valid_lp1_st {C : CallF} {r : R} (a0 : (List (List (Int × Int)))) (a1 : (List Int)) (v0 : (List (List (Int × Int)))) (v1 : (List Int)) (v2 : Int) (v3 : Int) (v4 : (List Bool)) (h : (if (decide (v3 < v2)) = true then (if (0 ≤ v3 ∧ v3 < ((List.length v1 : Nat) : Int)) then (if (decide ((List.getD v1 (Int.toNat v3) (0 : Int)) < (0 : Int))) = true then (some [.val tI (1 : Int)]) else (if (decide ((List.getD v1 (Int.toNat v3) (0 : Int)) ≥ ((List.length v0 : Nat) : Int))) = true then (some [.val tI (1 : Int)]) else (if (0 ≤ (List.getD v1 (Int.toNat v3) (0 : Int)) ∧ (List.getD v1 (Int.toNat v3) (0 : Int)) < ((List.length v4 : Nat) : Int)) then (if (List.getD v4 (Int.toNat (List.getD v1 (Int.toNat v3) (0 : Int))) false) = true then (some [.val tI (1 : Int)]) else (if (0 ≤ (List.getD v1 (Int.toNat v3) (0 : Int)) ∧ (List.getD v1 (Int.toNat v3) (0 : Int)) < ((List.length v4 : Nat) : Int)) then (path_valid_lp1 C a0 a1 v0 v1 v2 (wr .i64 (v3 + (1 : Int))) (List.set v4 (Int.toNat (List.getD v1 (Int.toNat v3) (0 : Int))) true)) else none)) else none))) else none) else (some [.val tI (0 : Int)])) = some r) : path_valid_lp1 C a0 a1 v0 v1 v2 v3 v4 = some r := lpAt_of (Eq.trans (by kernel_rfl) h)
theorem path_distance_st {r : R} (a0 : (Int × Int)) (a1 : (Int × Int)) (h : (some [.val tI (wr .i64 ((if (wr .i64 (a1.1 - a0.1)) > (wr .i64 (a0.1 - a1.1)) then (wr .i64 (a1.1 - a0.1)) else (wr .i64 (a0.1 - a1.1))) + (if (wr .i64 (a1.2 - a0.2)) > (wr .i64 (a0.2 - a1.2)) then (wr .i64 (a1.2 - a0.2)) else (wr .i64 (a0.2 - a1.2)))))]) = some r) : CG 113 [.val t0 a0, .val t0 a1] = some r := limC_run (f := cf_path_distance) (by kernel_rfl) (by kernel_rfl) (Eq.trans (by kernel_rfl) h)
noncomputable def path_check_lp1 (C : CallF) (a0 : (List (List (Int × Int)))) (v0 : (List (List (Int × Int)))) (v1 : Int) (v2 : Int) : Option R := lpAt C cf_path_check [.val (.sl (.sl t0)) a0] [1, 1, 0, 1, 0] [.d (.undef), .d (.undef), .d (.undef), .d (.undef), .d (.undef), .d (.undef), .d (.undef), .d (.undef), .d (.undef), .d (.val (.sl (.sl t0)) v0), .d (.val tI v1), .d (.val tI v2), .d (.undef), .d (.undef), .d (.undef), .d (.undef), .d (.undef), .d (.undef), .d (.undef), .d (.undef), .d (.undef)] (ofL [])
theorem path_check_st {r : R} (a0 : (List (List (Int × Int)))) (h : (if (decide (((List.length a0 : Nat) : Int) > (60 : Int))) = true then (some [.val tI (5 : Int)]) else (path_check_lp1 CG a0 a0 ((List.length a0 : Nat) : Int) (0 : Int))) = some r) : CG 114 [.val (.sl (.sl t0)) a0] = some r := limC_run (f := cf_path_check) (by kernel_rfl) (by kernel_rfl) (Eq.trans (by kernel_rfl) h)
theorem path_check_lp1_st {C : CallF} {r : R} (a0 : (List (List (Int × Int)))) (v0 : (List (List (Int × Int)))) (v1 : Int) (v2 : Int) (h : (if (decide (v2 < v1)) = true then (if (0 ≤ v2 ∧ v2 < ((List.length v0 : Nat) : Int)) then ((callT C [.v tI] 13 [.val (.sl t0) (List.getD v0 (Int.toNat v2) ([] : (List (Int × Int))))]).bind fun (r1 : Int) => (if (r1 != (0 : Int)) = true then (some [.val tI r1]) else (path_check_lp1 C a0 v0 v1 (wr .i64 (v2 + (1 : Int)))))) else none) else (some [.val tI (0 : Int)])) = some r) : path_check_lp1 C a0 v0 v1 v2 = some r := lpAt_of (Eq.trans (by kernel_rfl) h)
noncomputable def path_better_lp1 (C : CallF) (a0 : (List (List (Int × Int)))) (a1 : (List Int)) (v0 : (List (List (Int × Int)))) (v1 : (List Int)) (v2 : Int) (v3 : Int) : Option R := lpAt C cf_path_better [.val (.sl (.sl t0)) a0, .val (.sl tI) a1] [1, 0, 1, 0] [.d (.val (.sl (.sl t0)) v0), .d (.val (.sl tI) v1), .d (.undef), .d (.undef), .d (.undef), .d (.undef), .d (.undef), .d (.undef), .d (.undef), .d (.undef), .d (.val tI v2), .d (.val tI v3), .d (.undef), .d (.undef), .d (.undef), .d (.undef), .d (.undef), .d (.undef), .d (.undef), .d (.undef), .d (.undef), .d (.undef), .d (.undef), .d (.undef), .d (.undef), .d (.undef), .d (.undef), .d (.undef), .d (.undef), .d (.undef), .d (.undef), .d (.undef), .d (.undef), .d (.undef), .d (.undef), .d (.undef), .d (.undef), .d (.undef), .d (.undef), .d (.undef), .d (.undef), .d (.undef), .d (.undef), .d (.undef), .d (.undef), .d (.undef), .d (.undef), .d (.undef), .d (.undef), .d (.undef), .d (.undef)] (ofL [])
noncomputable def path_better_lp2 (C : CallF) (a0 : (List (List (Int × Int)))) (a1 : (List Int)) (v0 : (List (List (Int × Int)))) (v1 : (List Int)) (v2 : Int) (v3 : Int) (v4 : Int) (v5 : Int) : Option R := lpAt C cf_path_better [.val (.sl (.sl t0)) a0, .val (.sl tI) a1] [1, 0, 1, 0, 0, 1, 1, 0, 0, 1, 1, 0] [.d (.val (.sl (.sl t0)) v0), .d (.val (.sl tI) v1), .d (.undef), .d (.undef), .d (.undef), .d (.undef), .d (.val tI v2), .d (.val tI v3), .d (.undef), .d (.undef), .d (.val tI v4), .d (.val tI v5), .d (.undef), .d (.undef), .d (.undef), .d (.undef), .d (.undef), .d (.undef), .d (.undef), .d (.undef), .d (.undef), .d (.undef), .d (.undef), .d (.undef), .d (.undef), .d (.undef), .d (.undef), .d (.undef), .d (.undef), .d (.undef), .d (.undef), .d (.undef), .d (.undef), .d (.undef), .d (.undef), .d (.undef), .d (.undef), .d (.undef), .d (.undef), .d (.undef), .d (.undef), .d (.undef), .d (.undef), .d (.undef), .d (.undef), .d (.undef), .d (.undef), .d (.undef), .d (.undef), .d (.undef), .d (.undef)] (ofL [])
theorem path_better_st {r : R} (a0 : (List (List (Int × Int)))) (a1 : (List Int)) (h : (path_better_lp1 CG a0 a1 a0 a1 ((List.length a1 : Nat) : Int) (0 : Int)) = some r) : CG 117 [.val (.sl (.sl t0)) a0, .val (.sl tI) a1] = some r := limC_run (f := cf_path_better) (by kernel_rfl) (by kernel_rfl) (Eq.trans (by kernel_rfl) h)
theorem path_better_lp1_st {C : CallF} {r : R} (a0 : (List (List (Int × Int)))) (a1 : (List Int)) (v0 : (List (List (Int × Int)))) (v1 : (List Int)) (v2 : Int) (v3 : Int) (h : (if (decide (v3 < v2)) = true then (path_better_lp2 C a0 a1 v0 v1 v3 (wr .i64 (v3 + (1 : Int))) v2 v3) else (some [.val (.sl tI) v1, .val .bool false])) = some r) : path_better_lp1 C a0 a1 v0 v1 v2 v3 = some r := lpAt_of (Eq.trans (by kernel_rfl) h)
theorem path_better_lp2_st {C : CallF} {r : R} (a0 : (List (List (Int × Int)))) (a1 : (List Int)) (v0 : (List (List (Int × Int)))) (v1 : (List Int)) (v2 : Int) (v3 : Int) (v4 : Int) (v5 : Int) (h : (if (decide (v3 < ((List.length v1 : Nat) : Int))) = true then ((callT C [.v tI] 118 [.val (.sl (.sl t0)) v0, .val (.sl tI) v1, .val tI v2, .val tI v3]).bind fun (r1 : Int) => (if (decide (r1 > (0 : Int))) = true then (if (0 ≤ v2 ∧ v2 ≤ (wr .i64 (v3 + (1 : Int))) ∧ (wr .i64 (v3 + (1 : Int))) ≤ ((List.length v1 : Nat) : Int) ∧ (wr .i64 (v3 + (1 : Int))) = (wr .i64 (v3 + (1 : Int)))) then ((callT C [.o tI] 62 [.val (.sl tI) (List.drop (Int.toNat v2) (List.take (Int.toNat (wr .i64 (v3 + (1 : Int)))) v1))]).bind fun (r2 : (List Int)) => ((callT C [.o tI] 119 [.own tI r2]).bind fun (r3 : (List Int)) => (if (0 ≤ v2 ∧ v2 ≤ ((List.length v1 : Nat) : Int) ∧ v2 = v2) then (if (0 ≤ (wr .i64 (v3 + (1 : Int))) ∧ (wr .i64 (v3 + (1 : Int))) ≤ ((List.length v1 : Nat) : Int)) then ((callT C [.o tI] 120 [.val (.sl (.sl tI)) ([(List.take (Int.toNat v2) v1), r3, (List.drop (Int.toNat (wr .i64 (v3 + (1 : Int)))) v1)] : List (List Int))]).bind fun (r4 : (List Int)) => (some [.val (.sl tI) r4, .val .bool true])) else none) else none))) else none) else (path_better_lp2 C a0 a1 v0 v1 v2 (wr .i64 (v3 + (1 : Int))) v4 v5))) else (path_better_lp1 C a0 a1 v0 v1 v4 (wr .i64 (v5 + (1 : Int))))) = some r) : path_better_lp2 C a0 a1 v0 v1 v2 v3 v4 v5 = some r := lpAt_of (Eq.trans (by kernel_rfl) h)
theorem path_gain_st {r : R} (a0 : (List (List (Int × Int)))) (a1 : (List Int)) (a2 : Int) (a3 : Int) (h : (if (decide (a2 > (0 : Int))) = true then (if (0 ≤ (wr .i64 (a2 - (1 : Int))) ∧ (wr .i64 (a2 - (1 : Int))) < ((List.length a1 : Nat) : Int)) then (if (0 ≤ (List.getD a1 (Int.toNat (wr .i64 (a2 - (1 : Int)))) (0 : Int)) ∧ (List.getD a1 (Int.toNat (wr .i64 (a2 - (1 : Int)))) (0 : Int)) < ((List.length a0 : Nat) : Int)) then (if (0 ≤ (0 : Int) ∧ (0 : Int) < ((List.length (List.getD a0 (Int.toNat (List.getD a1 (Int.toNat (wr .i64 (a2 - (1 : Int)))) (0 : Int))) ([] : (List (Int × Int)))) : Nat) : Int)) then (if (0 ≤ a2 ∧ a2 < ((List.length a1 : Nat) : Int)) then (if (0 ≤ (List.getD a1 (Int.toNat a2) (0 : Int)) ∧ (List.getD a1 (Int.toNat a2) (0 : Int)) < ((List.length a0 : Nat) : Int)) then (if (0 ≤ (0 : Int) ∧ (0 : Int) < ((List.length (List.getD a0 (Int.toNat (List.getD a1 (Int.toNat a2) (0 : Int))) ([] : (List (Int × Int)))) : Nat) : Int)) then (if (0 ≤ a3 ∧ a3 < ((List.length a1 : Nat) : Int)) then (if (0 ≤ (List.getD a1 (Int.toNat a3) (0 : Int)) ∧ (List.getD a1 (Int.toNat a3) (0 : Int)) < ((List.length a0 : Nat) : Int)) then (if (0 ≤ (0 : Int) ∧ (0 : Int) < ((List.length (List.getD a0 (Int.toNat (List.getD a1 (Int.toNat a3) (0 : Int))) ([] : (List (Int × Int)))) : Nat) : Int)) then ((callT CG [.v tI] 113 [.val t0 (List.getD (List.getD a0 (Int.toNat (List.getD a1 (Int.toNat (wr .i64 (a2 - (1 : Int)))) (0 : Int))) ([] : (List (Int × Int)))) (Int.toNat (0 : Int)) ((0 : Int), (0 : Int))), .val t0 (List.getD (List.getD a0 (Int.toNat (List.getD a1 (Int.toNat a2) (0 : Int))) ([] : (List (Int × Int)))) (Int.toNat (0 : Int)) ((0 : Int), (0 : Int)))]).bind fun (r1 : Int) => ((callT CG [.v tI] 113 [.val t0 (List.getD (List.getD a0 (Int.toNat (List.getD a1 (Int.toNat (wr .i64 (a2 - (1 : Int)))) (0 : Int))) ([] : (List (Int × Int)))) (Int.toNat (0 : Int)) ((0 : Int), (0 : Int))), .val t0 (List.getD (List.getD a0 (Int.toNat (List.getD a1 (Int.toNat a3) (0 : Int))) ([] : (List (Int × Int)))) (Int.toNat (0 : Int)) ((0 : Int), (0 : Int)))]).bind fun (r2 : Int) => (if (decide ((wr .i64 (a3 + (1 : Int))) < ((List.length a1 : Nat) : Int))) = true then (if (0 ≤ (wr .i64 (a3 + (1 : Int))) ∧ (wr .i64 (a3 + (1 : Int))) < ((List.length a1 : Nat) : Int)) then (if (0 ≤ (List.getD a1 (Int.toNat (wr .i64 (a3 + (1 : Int)))) (0 : Int)) ∧ (List.getD a1 (Int.toNat (wr .i64 (a3 + (1 : Int)))) (0 : Int)) < ((List.length a0 : Nat) : Int)) then (if (0 ≤ (0 : Int) ∧ (0 : Int) < ((List.length (List.getD a0 (Int.toNat (List.getD a1 (Int.toNat (wr .i64 (a3 + (1 : Int)))) (0 : Int))) ([] : (List (Int × Int)))) : Nat) : Int)) then ((callT CG [.v tI] 113 [.val t0 (List.getD (List.getD a0 (Int.toNat (List.getD a1 (Int.toNat a3) (0 : Int))) ([] : (List (Int × Int)))) (Int.toNat (0 : Int)) ((0 : Int), (0 : Int))), .val t0 (List.getD (List.getD a0 (Int.toNat (List.getD a1 (Int.toNat (wr .i64 (a3 + (1 : Int)))) (0 : Int))) ([] : (List (Int × Int)))) (Int.toNat (0 : Int)) ((0 : Int), (0 : Int)))]).bind fun (r3 : Int) => ((callT CG [.v tI] 113 [.val t0 (List.getD (List.getD a0 (Int.toNat (List.getD a1 (Int.toNat a2) (0 : Int))) ([] : (List (Int × Int)))) (Int.toNat (0 : Int)) ((0 : Int), (0 : Int))), .val t0 (List.getD (List.getD a0 (Int.toNat (List.getD a1 (Int.toNat (wr .i64 (a3 + (1 : Int)))) (0 : Int))) ([] : (List (Int × Int)))) (Int.toNat (0 : Int)) ((0 : Int), (0 : Int)))]).bind fun (r4 : Int) => (some [.val tI (wr .i64 ((wr .i64 (r1 - r2)) + (wr .i64 (r3 - r4))))]))) else none) else none) else none) else (some [.val tI (wr .i64 (r1 - r2))])))) else none) else none) else none) else none) else none) else none) else none) else none) else none) else (if (0 ≤ a2 ∧ a2 < ((List.length a1 : Nat) : Int)) then (if (0 ≤ (List.getD a1 (Int.toNat a2) (0 : Int)) ∧ (List.getD a1 (Int.toNat a2) (0 : Int)) < ((List.length a0 : Nat) : Int)) then (if (0 ≤ (0 : Int) ∧ (0 : Int) < ((List.length (List.getD a0 (Int.toNat (List.getD a1 (Int.toNat a2) (0 : Int))) ([] : (List (Int × Int)))) : Nat) : Int)) then (if (0 ≤ a3 ∧ a3 < ((List.length a1 : Nat) : Int)) then (if (0 ≤ (List.getD a1 (Int.toNat a3) (0 : Int)) ∧ (List.getD a1 (Int.toNat a3) (0 : Int)) < ((List.length a0 : Nat) : Int)) then (if (0 ≤ (0 : Int) ∧ (0 : Int) < ((List.length (List.getD a0 (Int.toNat (List.getD a1 (Int.toNat a3) (0 : Int))) ([] : (List (Int × Int)))) : Nat) : Int)) then ((callT CG [.v tI] 113 [.val t0 ((0 : Int), (0 : Int)), .val t0 (List.getD (List.getD a0 (Int.toNat (List.getD a1 (Int.toNat a2) (0 : Int))) ([] : (List (Int × Int)))) (Int.toNat (0 : Int)) ((0 : Int), (0 : Int)))]).bind fun (r5 : Int) => ((callT CG [.v tI] 113 [.val t0 ((0 : Int), (0 : Int)), .val t0 (List.getD (List.getD a0 (Int.toNat (List.getD a1 (Int.toNat a3) (0 : Int))) ([] : (List (Int × Int)))) (Int.toNat (0 : Int)) ((0 : Int), (0 : Int)))]).bind fun (r6 : Int) => (if (decide ((wr .i64 (a3 + (1 : Int))) < ((List.length a1 : Nat) : Int))) = true then (if (0 ≤ (wr .i64 (a3 + (1 : Int))) ∧ (wr .i64 (a3 + (1 : Int))) < ((List.length a1 : Nat) : Int)) then (if (0 ≤ (List.getD a1 (Int.toNat (wr .i64 (a3 + (1 : Int)))) (0 : Int)) ∧ (List.getD a1 (Int.toNat (wr .i64 (a3 + (1 : Int)))) (0 : Int)) < ((List.length a0 : Nat) : Int)) then (if (0 ≤ (0 : Int) ∧ (0 : Int) < ((List.length (List.getD a0 (Int.toNat (List.getD a1 (Int.toNat (wr .i64 (a3 + (1 : Int)))) (0 : Int))) ([] : (List (Int × Int)))) : Nat) : Int)) then ((callT CG [.v tI] 113 [.val t0 (List.getD (List.getD a0 (Int.toNat (List.getD a1 (Int.toNat a3) (0 : Int))) ([] : (List (Int × Int)))) (Int.toNat (0 : Int)) ((0 : Int), (0 : Int))), .val t0 (List.getD (List.getD a0 (Int.toNat (List.getD a1 (Int.toNat (wr .i64 (a3 + (1 : Int)))) (0 : Int))) ([] : (List (Int × Int)))) (Int.toNat (0 : Int)) ((0 : Int), (0 : Int)))]).bind fun (r7 : Int) => ((callT CG [.v tI] 113 [.val t0 (List.getD (List.getD a0 (Int.toNat (List.getD a1 (Int.toNat a2) (0 : Int))) ([] : (List (Int × Int)))) (Int.toNat (0 : Int)) ((0 : Int), (0 : Int))), .val t0 (List.getD (List.getD a0 (Int.toNat (List.getD a1 (Int.toNat (wr .i64 (a3 + (1 : Int)))) (0 : Int))) ([] : (List (Int × Int)))) (Int.toNat (0 : Int)) ((0 : Int), (0 : Int)))]).bind fun (r8 : Int) => (some [.val tI (wr .i64 ((wr .i64 (r5 - r6)) + (wr .i64 (r7 - r8))))]))) else none) else none) else none) else (some [.val tI (wr .i64 (r5 - r6))])))) else none) else none) else none) else none) else none) else none)) = some r) : CG 118 [.val (.sl (.sl t0)) a0, .val (.sl tI) a1, .val tI a2, .val tI a3] = some r := limC_run (f := cf_path_gain) (by kernel_rfl) (by kernel_rfl) (Eq.trans (by kernel_rfl) h)
noncomputable def polygon_Check_lp1 (C : CallF) (a0 : (List (Int × Int))) (v0 : (List (Int × Int))) (v1 : (List (Int × Int))) (v2 : Int) (v3 : Int) : Option R := lpAt C cf_polygon_Check [.val (.sl t0) a0] [1, 1, 1, 0, 1, 0] [.d (.val (.sl t0) v0), .d (.undef), .d (.undef), .d (.undef), .d (.undef), .d (.undef), .d (.undef), .d (.undef), .d (.undef), .d (.undef), .d (.undef), .d (.val (.sl t0) v1), .d (.val tI v2), .d (.val tI v3), .d (.undef), .d (.undef), .d (.undef), .d (.undef), .d (.undef), .d (.undef), .d (.undef), .d (.undef), .d (.undef), .d (.undef), .d (.undef), .d (.undef), .d (.undef), .d (.undef), .d (.undef), .d (.undef), .d (.undef)] (ofL [])
theorem polygon_Check_st {r : R} (a0 : (List (Int × Int))) (h : (if (decide (((List.length a0 : Nat) : Int) > (40 : Int))) = true then (some [.val tI (5 : Int)]) else (if (decide (((List.length a0 : Nat) : Int) < (3 : Int))) = true then (some [.val tI (11 : Int)]) else (polygon_Check_lp1 CG a0 a0 a0 ((List.length a0 : Nat) : Int) (0 : Int)))) = some r) : CG 13 [.val (.sl t0) a0] = some r := limC_run (f := cf_polygon_Check) (by kernel_rfl) (by kernel_rfl) (Eq.trans (by kernel_rfl) h)
theorem polygon_Check_lp1_st {C : CallF} {r : R} (a0 : (List (Int × Int))) (v0 : (List (Int × Int))) (v1 : (List (Int × Int))) (v2 : Int) (v3 : Int) (h : (if (decide (v3 < v2)) = true then (if (0 ≤ v3 ∧ v3 < ((List.length v1 : Nat) : Int)) then ((callT C [.v .bool] 20 [.val tI (List.getD v1 (Int.toNat v3) ((0 : Int), (0 : Int))).1]).bind fun (r1 : Bool) => (if (!r1) = true then (some [.val tI (3 : Int)]) else ((callT C [.v .bool] 20 [.val tI (List.getD v1 (Int.toNat v3) ((0 : Int), (0 : Int))).2]).bind fun (r2 : Bool) => (if (!r2) = true then (some [.val tI (3 : Int)]) else (polygon_Check_lp1 C a0 v0 v1 v2 (wr .i64 (v3 + (1 : Int)))))))) else none) else ((callT C [.v .bool] 21 [.val (.sl t0) v0]).bind fun (r3 : Bool) => (if (!r3) = true then (some [.val tI (11 : Int)]) else (some [.val tI (0 : Int)])))) = some r) : polygon_Check_lp1 C a0 v0 v1 v2 v3 = some r := lpAt_of (Eq.trans (by kernel_rfl) h)
theorem polygon_inside_st {r : R} (a0 : Int) (h : (if (decide (a0 ≥ ((-1048576) : Int))) = true then (some [.val .bool (decide (a0 ≤ (1048576 : Int)))]) else (some [.val .bool false])) = some r) : CG 20 [.val tI a0] = some r := limC_run (f := cf_polygon_inside) (by kernel_rfl) (by kernel_rfl) (Eq.trans (by kernel_rfl) h)
noncomputable def polygon_simple_lp1 (C : CallF) (a0 : (List (Int × Int))) (v0 : Int) (v1 : Int) (v2 : (List ((Int × Int) × (Int × Int)))) : Option R := lpAt C cf_polygon_simple [.val (.sl t0) a0] [1, 1, 0, 1, 0] [.d (.undef), .d (.undef), .d (.undef), .d (.ref 100000), .d (.undef), .d (.undef), .d (.undef), .d (.undef), .d (.undef), .d (.undef), .d (.ref 100000), .d (.val tI v0), .d (.val tI v1), .d (.undef), .d (.undef), .d (.undef), .d (.undef), .d (.undef), .d (.undef), .d (.undef), .d (.undef), .d (.undef), .d (.undef), .d (.undef), .d (.undef), .d (.undef), .d (.undef), .d (.undef), .d (.undef), .d (.undef), .d (.undef), .d (.undef), .d (.undef), .d (.undef), .d (.undef), .d (.undef), .d (.undef), .d (.undef), .d (.undef), .d (.undef), .d (.undef), .d (.undef), .d (.undef), .d (.undef), .d (.undef), .d (.undef), .d (.undef), .d (.undef), .d (.undef), .d (.undef), .d (.undef), .d (.undef), .d (.undef), .d (.undef), .d (.undef), .d (.undef), .d (.undef), .d (.undef), .d (.undef), .d (.undef), .d (.undef), .d (.undef), .d (.undef), .d (.undef)] (ofL [(100000, .arr t1 v2 .lv)])
noncomputable def polygon_simple_lp2 (C : CallF) (a0 : (List (Int × Int))) (v0 : Int) (v1 : Int) (v2 : Int) (v3 : Int) (v4 : (List ((Int × Int) × (Int × Int)))) (v5 : ((Int × Int) × (Int × Int))) : Option R := lpAt C cf_polygon_simple [.val (.sl t0) a0] [1, 1, 0, 1, 0, 0, 1, 1, 0, 0, 1, 1, 1, 1, 1, 0] [.d (.undef), .d (.undef), .d (.undef), .d (.ref 200000), .d (.val tI v0), .d (.ptr 200001 0 []), .d (.undef), .d (.val tI v1), .d (.undef), .d (.undef), .d (.ref 200000), .d (.val tI v2), .d (.val tI v3), .d (.undef), .d (.undef), .d (.undef), .d (.undef), .d (.undef), .d (.undef), .d (.undef), .d (.undef), .d (.undef), .d (.undef), .d (.undef), .d (.undef), .d (.undef), .d (.undef), .d (.undef), .d (.undef), .d (.undef), .d (.undef), .d (.undef), .d (.undef), .d (.undef), .d (.undef), .d (.undef), .d (.undef), .d (.undef), .d (.undef), .d (.undef), .d (.undef), .d (.undef), .d (.undef), .d (.undef), .d (.undef), .d (.undef), .d (.undef), .d (.undef), .d (.undef), .d (.undef), .d (.undef), .d (.undef), .d (.undef), .d (.undef), .d (.undef), .d (.undef), .d (.undef), .d (.undef), .d (.undef), .d (.undef), .d (.undef), .d (.undef), .d (.undef), .d (.undef)] (ofL [(200000, .arr t1 v4 .lv), (200001, .box t1 (.val t1 v5))])
theorem polygon_simple_st {r : R} (a0 : (List (Int × Int))) (h : ((callT CG [.o t1] 22 [.val (.sl t0) a0]).bind fun (r1 : (List ((Int × Int) × (Int × Int)))) => (polygon_simple_lp1 CG a0 ((List.length r1 : Nat) : Int) (0 : Int) r1)) = some r) : CG 21 [.val (.sl t0) a0] = some r := limC_run (f := cf_polygon_simple) (by kernel_rfl) (by kernel_rfl) (Eq.trans (by kernel_rfl) h)
theorem polygon_simple_lp1_st {C : CallF} {r : R} (a0 : (List (Int × Int))) (v0 : Int) (v1 : Int) (v2 : (List ((Int × Int) × (Int × Int)))) (h : (if (decide (v1 < v0)) = true then (if (0 ≤ v1 ∧ v1 < ((List.length v2 : Nat) : Int)) then (if (((List.getD v2 (Int.toNat v1) (((0 : Int), (0 : Int)), ((0 : Int), (0 : Int)))).1.1 == (List.getD v2 (Int.toNat v1) (((0 : Int), (0 : Int)), ((0 : Int), (0 : Int)))).2.1) && ((List.getD v2 (Int.toNat v1) (((0 : Int), (0 : Int)), ((0 : Int), (0 : Int)))).1.2 == (List.getD v2 (Int.toNat v1) (((0 : Int), (0 : Int)), ((0 : Int), (0 : Int)))).2.2)) = true then (some [.val .bool false]) else (if (((List.length v2 : Nat) : Int) ≠ 0) then (if (0 ≤ (Int.tmod (wr .i64 (v1 + (1 : Int))) ((List.length v2 : Nat) : Int)) ∧ (Int.tmod (wr .i64 (v1 + (1 : Int))) ((List.length v2 : Nat) : Int)) < ((List.length v2 : Nat) : Int)) then ((callT C [.v .bool] 23 [.val t1 (List.getD v2 (Int.toNat v1) (((0 : Int), (0 : Int)), ((0 : Int), (0 : Int)))), .val t0 (List.getD v2 (Int.toNat (Int.tmod (wr .i64 (v1 + (1 : Int))) ((List.length v2 : Nat) : Int))) (((0 : Int), (0 : Int)), ((0 : Int), (0 : Int)))).2]).bind fun (r1 : Bool) => (if r1 = true then (some [.val .bool false]) else ((callT C [.v .bool] 23 [.val t1 (List.getD v2 (Int.toNat (Int.tmod (wr .i64 (v1 + (1 : Int))) ((List.length v2 : Nat) : Int))) (((0 : Int), (0 : Int)), ((0 : Int), (0 : Int)))), .val t0 (List.getD v2 (Int.toNat v1) (((0 : Int), (0 : Int)), ((0 : Int), (0 : Int)))).1]).bind fun (r2 : Bool) => (if r2 = true then (some [.val .bool false]) else (polygon_simple_lp2 C a0 v1 (wr .i64 (v1 + (2 : Int))) v0 v1 v2 (List.getD v2 (Int.toNat v1) (((0 : Int), (0 : Int)), ((0 : Int), (0 : Int))))))))) else none) else none)) else none) else (some [.val .bool true])) = some r) : polygon_simple_lp1 C a0 v0 v1 v2 = some r := lpAt_of (Eq.trans (by kernel_rfl) h)
theorem polygon_simple_lp2_st {C : CallF} {r : R} (a0 : (List (Int × Int))) (v0 : Int) (v1 : Int) (v2 : Int) (v3 : Int) (v4 : (List ((Int × Int) × (Int × Int)))) (v5 : ((Int × Int) × (Int × Int))) (h : (if (decide (v1 < ((List.length v4 : Nat) : Int))) = true then (if (v0 == (0 : Int)) = true then (if (v1 == (wr .i64 (((List.length v4 : Nat) : Int) - (1 : Int)))) = true then (polygon_simple_lp2 C a0 v0 (wr .i64 (v1 + (1 : Int))) v2 v3 v4 v5) else (if (0 ≤ v1 ∧ v1 < ((List.length v4 : Nat) : Int)) then ((callT C [.v .bool] 24 [.val t1 v5, .val t1 (List.getD v4 (Int.toNat v1) (((0 : Int), (0 : Int)), ((0 : Int), (0 : Int))))]).bind fun (r1 : Bool) => (if r1 = true then (some [.val .bool false]) else (polygon_simple_lp2 C a0 v0 (wr .i64 (v1 + (1 : Int))) v2 v3 v4 v5))) else none)) else (if (0 ≤ v1 ∧ v1 < ((List.length v4 : Nat) : Int)) then ((callT C [.v .bool] 24 [.val t1 v5, .val t1 (List.getD v4 (Int.toNat v1) (((0 : Int), (0 : Int)), ((0 : Int), (0 : Int))))]).bind fun (r2 : Bool) => (if r2 = true then (some [.val .bool false]) else (polygon_simple_lp2 C a0 v0 (wr .i64 (v1 + (1 : Int))) v2 v3 v4 v5))) else none)) else (polygon_simple_lp1 C a0 v2 (wr .i64 (v3 + (1 : Int))) v4)) = some r) : polygon_simple_lp2 C a0 v0 v1 v2 v3 v4 v5 = some r := lpAt_of (Eq.trans (by kernel_rfl) h)
theorem polygon_turn_st {r : R} (a0 : (Int × Int)) (a1 : (Int × Int)) (a2 : (Int × Int)) (h : (some [.val tI (wr .i64 ((wr .i64 ((wr .i64 (a1.1 - a0.1)) * (wr .i64 (a2.2 - a1.2)))) - (wr .i64 ((wr .i64 (a1.2 - a0.2)) * (wr .i64 (a2.1 - a1.1))))))]) = some r) : CG 14 [.val t0 a0, .val t0 a1, .val t0 a2] = some r := limC_run (f := cf_polygon_turn) (by kernel_rfl) (by kernel_rfl) (Eq.trans (by kernel_rfl) h)
noncomputable def polygon_sides_lp1 (C : CallF) (a0 : (List (Int × Int))) (v0 : (List (Int × Int))) (v1 : (List (Int × Int))) (v2 : Int) (v3 : Int) (v4 : (List ((Int × Int) × (Int × Int)))) : Option R := lpAt C cf_polygon_sides [.val (.sl t0) a0] [1, 1, 0, 1, 0] [.d (.val (.sl t0) v0), .d (.undef), .d (.undef), .d (.ref 100000), .d (.undef), .d (.undef), .d (.undef), .d (.undef), .d (.undef), .d (.val (.sl t0) v1), .d (.val tI v2), .d (.val tI v3), .d (.undef), .d (.undef), .d (.undef), .d (.undef), .d (.undef), .d (.undef), .d (.undef), .d (.undef), .d (.undef), .d (.undef), .d (.undef), .d (.undef), .d (.undef), .d (.undef), .d (.undef), .d (.undef), .d (.undef), .d (.undef), .d (.undef)] (ofL [(100000, .arr t1 v4 .lv)])
theorem polygon_sides_st {r : R} (a0 : (List (Int × Int))) (h : (if (0 ≤ ((List.length a0 : Nat) : Int) ∧ ((List.length a0 : Nat) : Int) ≤ ((List.length a0 : Nat) : Int) ∧ ((List.length a0 : Nat) : Int) ≤ ((8796093022208 : Nat) : Int)) then (polygon_sides_lp1 CG a0 a0 a0 ((List.length a0 : Nat) : Int) (0 : Int) (List.replicate (Int.toNat ((List.length a0 : Nat) : Int)) (((0 : Int), (0 : Int)), ((0 : Int), (0 : Int))))) else none) = some r) : CG 22 [.val (.sl t0) a0] = some r := limC_run (f := cf_polygon_sides) (by kernel_rfl) (by kernel_rfl) (Eq.trans (by kernel_rfl) h)
theorem polygon_sides_lp1_st {C : CallF} {r : R} (a0 : (List (Int × Int))) (v0 : (List (Int × Int))) (v1 : (List (Int × Int))) (v2 : Int) (v3 : Int) (v4 : (List ((Int × Int) × (Int × Int)))) (h : (if (decide (v3 < v2)) = true then (if (0 ≤ v3 ∧ v3 < ((List.length v1 : Nat) : Int)) then (if (((List.length v0 : Nat) : Int) ≠ 0) then (if (0 ≤ (Int.tmod (wr .i64 (v3 + (1 : Int))) ((List.length v0 : Nat) : Int)) ∧ (Int.tmod (wr .i64 (v3 + (1 : Int))) ((List.length v0 : Nat) : Int)) < ((List.length v0 : Nat) : Int)) then (if (0 ≤ v3 ∧ v3 < ((List.length v4 : Nat) : Int)) then (polygon_sides_lp1 C a0 v0 v1 v2 (wr .i64 (v3 + (1 : Int))) (List.set v4 (Int.toNat v3) ((List.getD v1 (Int.toNat v3) ((0 : Int), (0 : Int))), (List.getD v0 (Int.toNat (Int.tmod (wr .i64 (v3 + (1 : Int))) ((List.length v0 : Nat) : Int))) ((0 : Int), (0 : Int)))))) else none) else none) else none) else none) else (some [.own t1 v4])) = some r) : polygon_sides_lp1 C a0 v0 v1 v2 v3 v4 = some r := lpAt_of (Eq.trans (by kernel_rfl) h)
theorem polygon_side_holds_st {r : R} (a0 : ((Int × Int) × (Int × Int))) (a1 : (Int × Int)) (h : ((callT CG [.v tI] 14 [.val t0 a0.1, .val t0 a0.2, .val t0 a1]).bind fun (r1 : Int) => (if (r1 == (0 : Int)) = true then ((callT CG [.v .bool] 25 [.val tI a1.1, .val tI a0.1.1, .val tI a0.2.1]).bind fun (r2 : Bool) => (if r2 = true then ((callT CG [.v .bool] 25 [.val tI a1.2, .val tI a0.1.2, .val tI a0.2.2]).bind fun (r3 : Bool) => (some [.val .bool r3])) else (some [.val .bool false]))) else (some [.val .bool false]))) = some r) : CG 23 [.val t1 a0, .val t0 a1] = some r := limC_run (f := cf_polygon_side_holds) (by kernel_rfl) (by kernel_rfl) (Eq.trans (by kernel_rfl) h)
theorem polygon_side_meets_st {r : R} (a0 : ((Int × Int) × (Int × Int))) (a1 : ((Int × Int) × (Int × Int))) (h : ((callT CG [.v .bool] 23 [.val t1 a0, .val t0 a1.1]).bind fun (r1 : Bool) => (if r1 = true then (some [.val .bool true]) else ((callT CG [.v .bool] 23 [.val t1 a0, .val t0 a1.2]).bind fun (r2 : Bool) => (if r2 = true then (some [.val .bool true]) else ((callT CG [.v .bool] 23 [.val t1 a1, .val t0 a0.1]).bind fun (r3 : Bool) => (if r3 = true then (some [.val .bool true]) else ((callT CG [.v .bool] 23 [.val t1 a1, .val t0 a0.2]).bind fun (r4 : Bool) => (if r4 = true then (some [.val .bool true]) else ((callT CG [.v .bool] 26 [.val t1 a0, .val t0 a1.1, .val t0 a1.2]).bind fun (r5 : Bool) => (if r5 = true then ((callT CG [.v .bool] 26 [.val t1 a1, .val t0 a0.1, .val t0 a0.2]).bind fun (r6 : Bool) => (some [.val .bool r6])) else (some [.val .bool false]))))))))))) = some r) : CG 24 [.val t1 a0, .val t1 a1] = some r := limC_run (f := cf_polygon_side_meets) (by kernel_rfl) (by kernel_rfl) (Eq.trans (by kernel_rfl) h)
theorem polygon_within_st {r : R} (a0 : Int) (a1 : Int) (a2 : Int) (h : (if (decide ((if a2 < a1 then a2 else a1) ≤ a0)) = true then (some [.val .bool (decide (a0 ≤ (if a2 > a1 then a2 else a1)))]) else (some [.val .bool false])) = some r) : CG 25 [.val tI a0, .val tI a1, .val tI a2] = some r := limC_run (f := cf_polygon_within) (by kernel_rfl) (by kernel_rfl) (Eq.trans (by kernel_rfl) h)
theorem polygon_side_divides_st {r : R} (a0 : ((Int × Int) × (Int × Int))) (a1 : (Int × Int)) (a2 : (Int × Int)) (h : ((callT CG [.v tI] 14 [.val t0 a0.1, .val t0 a0.2, .val t0 a1]).bind fun (r1 : Int) => ((callT CG [.v tI] 14 [.val t0 a0.1, .val t0 a0.2, .val t0 a2]).bind fun (r2 : Int) => (if (decide (r1 < (0 : Int))) = true then (if (decide (r2 > (0 : Int))) = true then (some [.val .bool true]) else (if (decide (r1 > (0 : Int))) = true then (some [.val .bool (decide (r2 < (0 : Int)))]) else (some [.val .bool false]))) else (if (decide (r1 > (0 : Int))) = true then (some [.val .bool (decide (r2 < (0 : Int)))]) else (some [.val .bool false]))))) = some r) : CG 26 [.val t1 a0, .val t0 a1, .val t0 a2] = some r := limC_run (f := cf_polygon_side_divides) (by kernel_rfl) (by kernel_rfl) (Eq.trans (by kernel_rfl) h)
theorem slices_Clone_int_int_st {r : R} (a0 : List Int) (h : (if (List.length ([] : List Int) + List.length a0 < 17592186044416) then (some [.own tI (([] : List Int) ++ a0)]) else none) = some r) : CG 62 [.val (.sl tI) a0] = some r := limC_sp (f := cf_slices_Clone_int_int) (by kernel_rfl) (by kernel_rfl) (Eq.trans (by kernel_rfl) h)
theorem slices_Contains_int_int_st {r : R} (a0 : (List Int)) (a1 : Int) (h : ((callT CG [.v tI] 116 [.val (.sl tI) a0, .val tI a1]).bind fun (r1 : Int) => (some [.val .bool (decide (r1 ≥ (0 : Int)))])) = some r) : CG 115 [.val (.sl tI) a0, .val tI a1] = some r := limC_run (f := cf_slices_Contains_int_int) (by kernel_rfl) (by kernel_rfl) (Eq.trans (by kernel_rfl) h)
noncomputable def slices_Index_int_int_lp1 (C : CallF) (a0 : (List Int)) (a1 : Int) (v0 : (List Int)) (v1 : Int) (v2 : Int) (v3 : Int) : Option R := lpAt C cf_slices_Index_int_int [.val (.sl tI) a0, .val tI a1] [1, 0, 1, 0] [.d (.val (.sl tI) v0), .d (.val tI v1), .d (.undef), .d (.undef), .d (.undef), .d (.undef), .d (.undef), .d (.val tI v2), .d (.val tI v3), .d (.undef), .d (.undef), .d (.undef), .d (.undef), .d (.undef), .d (.undef), .d (.undef), .d (.undef), .d (.undef), .d (.undef)] (ofL [])
theorem slices_Index_int_int_st {r : R} (a0 : (List Int)) (a1 : Int) (h : (slices_Index_int_int_lp1 CG a0 a1 a0 a1 ((List.length a0 : Nat) : Int) (0 : Int)) = some r) : CG 116 [.val (.sl tI) a0, .val tI a1] = some r := limC_run (f := cf_slices_Index_int_int) (by kernel_rfl) (by kernel_rfl) (Eq.trans (by kernel_rfl) h)
theorem slices_Index_int_int_lp1_st {C : CallF} {r : R} (a0 : (List Int)) (a1 : Int) (v0 : (List Int)) (v1 : Int) (v2 : Int) (v3 : Int) (h : (if (decide (v3 < v2)) = true then (if (0 ≤ v3 ∧ v3 < ((List.length v0 : Nat) : Int)) then (if (v1 == (List.getD v0 (Int.toNat v3) (0 : Int))) = true then (some [.val tI v3]) else (slices_Index_int_int_lp1 C a0 a1 v0 v1 v2 (wr .i64 (v3 + (1 : Int))))) else none) else (some [.val tI ((-1) : Int)])) = some r) : slices_Index_int_int_lp1 C a0 a1 v0 v1 v2 v3 = some r := lpAt_of (Eq.trans (by kernel_rfl) h)
noncomputable def slices_Reverse_int_int_lp1 (C : CallF) (a0 : List Int) (v0 : Int) (v1 : Int) (v2 : (List Int)) : Option R := lpAt C cf_slices_Reverse_int_int [.own tI a0] [1, 0] [.d (.ref 900000), .d (.undef), .d (.val tI v0), .d (.val tI v1), .d (.undef), .d (.undef), .d (.undef), .d (.undef), .d (.undef), .d (.undef), .d (.undef), .d (.undef), .d (.undef), .d (.undef), .d (.undef), .d (.undef), .d (.undef), .d (.undef), .d (.undef), .d (.undef), .d (.undef), .d (.undef), .d (.undef), .d (.undef), .d (.undef), .d (.undef), .d (.undef), .d (.undef)] (ofL [(900000, .arr tI v2 .io)])
theorem slices_Reverse_int_int_st {r : R} (a0 : List Int) (h : (slices_Reverse_int_int_lp1 CG a0 (0 : Int) (wr .i64 (((List.length a0 : Nat) : Int) - (1 : Int))) a0) = some r) : CG 119 [.own tI a0] = some r := limC_run (f := cf_slices_Reverse_int_int) (by kernel_rfl) (by kernel_rfl) (Eq.trans (by kernel_rfl) h)
theorem slices_Reverse_int_int_lp1_st {C : CallF} {r : R} (a0 : List Int) (v0 : Int) (v1 : Int) (v2 : (List Int)) (h : (if (decide (v0 < v1)) = true then (if (0 ≤ v1 ∧ v1 < ((List.length v2 : Nat) : Int)) then (if (0 ≤ v0 ∧ v0 < ((List.length v2 : Nat) : Int)) then (if (0 ≤ v0 ∧ v0 < ((List.length v2 : Nat) : Int)) then (if (0 ≤ v1 ∧ v1 < ((List.length (List.set v2 (Int.toNat v0) (List.getD v2 (Int.toNat v1) (0 : Int))) : Nat) : Int)) then (slices_Reverse_int_int_lp1 C a0 (wr .i64 (v0 + (1 : Int))) (wr .i64 (v1 - (1 : Int))) (List.set (List.set v2 (Int.toNat v0) (List.getD v2 (Int.toNat v1) (0 : Int))) (Int.toNat v1) (List.getD v2 (Int.toNat v0) (0 : Int)))) else none) else none) else none) else none) else (some [.own tI v2])) = some r) : slices_Reverse_int_int_lp1 C a0 v0 v1 v2 = some r := lpAt_of (Eq.trans (by kernel_rfl) h)
noncomputable def slices_Concat_int_int_lp1 (C : CallF) (a0 : (List (List Int))) (v0 : (List (List Int))) (v1 : Int) (v2 : (List (List Int))) (v3 : Int) (v4 : Int) : Option R := lpAt C cf_slices_Concat_int_int [.val (.sl (.sl tI)) a0] [1, 1, 0, 1, 0] [.d (.val (.sl (.sl tI)) v0), .d (.undef), .d (.undef), .d (.val tI v1), .d (.undef), .d (.undef), .d (.undef), .d (.undef), .d (.undef), .d (.val (.sl (.sl tI)) v2), .d (.val tI v3), .d (.val tI v4), .d (.undef), .d (.undef), .d (.undef), .d (.undef), .d (.undef), .d (.undef), .d (.undef), .d (.undef), .d (.undef), .d (.undef), .d (.undef), .d (.undef), .d (.undef), .d (.undef), .d (.undef), .d (.undef), .d (.undef), .d (.undef), .d (.undef), .d (.undef), .d (.undef), .d (.undef), .d (.undef), .d (.undef)] (ofL [])
noncomputable def slices_Concat_int_int_lp2 (C : CallF) (a0 : (List (List Int))) (v0 : (List (List Int))) (v1 : Int) (v2 : Int) (v3 : (List Int)) : Option R := lpAt C cf_slices_Concat_int_int [.val (.sl (.sl tI)) a0] [1, 1, 1, 1, 0, 1, 0] [.d (.undef), .d (.undef), .d (.undef), .d (.undef), .d (.undef), .d (.undef), .d (.ref 200000), .d (.undef), .d (.undef), .d (.undef), .d (.undef), .d (.undef), .d (.undef), .d (.undef), .d (.undef), .d (.undef), .d (.undef), .d (.undef), .d (.undef), .d (.undef), .d (.undef), .d (.undef), .d (.undef), .d (.undef), .d (.undef), .d (.val (.sl (.sl tI)) v0), .d (.val tI v1), .d (.val tI v2), .d (.undef), .d (.undef), .d (.undef), .d (.undef), .d (.undef), .d (.undef), .d (.undef), .d (.undef)] (ofL [(200000, .arr tI v3 .lv)])
theorem slices_Concat_int_int_st {r : R} (a0 : (List (List Int))) (h : (slices_Concat_int_int_lp1 CG a0 a0 (0 : Int) a0 ((List.length a0 : Nat) : Int) (0 : Int)) = some r) : CG 120 [.val (.sl (.sl tI)) a0] = some r := limC_run (f := cf_slices_Concat_int_int) (by kernel_rfl) (by kernel_rfl) (Eq.trans (by kernel_rfl) h)
theorem slices_Concat_int_int_lp1_st {C : CallF} {r : R} (a0 : (List (List Int))) (v0 : (List (List Int))) (v1 : Int) (v2 : (List (List Int))) (v3 : Int) (v4 : Int) (h : (if (decide (v4 < v3)) = true then (if (0 ≤ v4 ∧ v4 < ((List.length v2 : Nat) : Int)) then (if (decide ((wr .i64 (v1 + ((List.length (List.getD v2 (Int.toNat v4) ([] : (List Int))) : Nat) : Int))) < (0 : Int))) = true then none else (slices_Concat_int_int_lp1 C a0 v0 (wr .i64 (v1 + ((List.length (List.getD v2 (Int.toNat v4) ([] : (List Int))) : Nat) : Int))) v2 v3 (wr .i64 (v4 + (1 : Int))))) else none) else ((callT C [.o tI] 121 [.nil, .val tI v1]).bind fun (r1 : (List Int)) => (slices_Concat_int_int_lp2 C a0 v0 ((List.length v0 : Nat) : Int) (0 : Int) r1))) = some r) : slices_Concat_int_int_lp1 C a0 v0 v1 v2 v3 v4 = some r := lpAt_of (Eq.trans (by kernel_rfl) h)
theorem slices_Concat_int_int_lp2_st {C : CallF} {r : R} (a0 : (List (List Int))) (v0 : (List (List Int))) (v1 : Int) (v2 : Int) (v3 : (List Int)) (h : (if (decide (v2 < v1)) = true then (if (0 ≤ v2 ∧ v2 < ((List.length v0 : Nat) : Int)) then (if (List.length v3 + List.length (List.getD v0 (Int.toNat v2) ([] : (List Int))) < 17592186044416) then (slices_Concat_int_int_lp2 C a0 v0 v1 (wr .i64 (v2 + (1 : Int))) (v3 ++ (List.getD v0 (Int.toNat v2) ([] : (List Int))))) else none) else none) else (some [.own tI v3])) = some r) : slices_Concat_int_int_lp2 C a0 v0 v1 v2 v3 = some r := lpAt_of (Eq.trans (by kernel_rfl) h)
theorem slices_Grow_int_int_st {r : R} (a1 : Int) (h : (if (decide (a1 < (0 : Int))) = true then none else (if (decide ((wr .i64 (a1 - (wr .i64 ((0 : Int) - ((0 : Nat) : Int))))) > (0 : Int))) = true then (if ((∀ l ∈ (none : Option Int), l = 0) ∧ (∀ h ∈ (some (0 : Int) : Option Int), h = 0) ∧ (∀ m ∈ (none : Option Int), m = 0) ∧ ((none : Option Int).isSome = true → (some (0 : Int) : Option Int).isSome = true)) then (if (0 ≤ (wr .i64 (a1 - (wr .i64 ((0 : Int) - ((0 : Nat) : Int))))) ∧ (wr .i64 (a1 - (wr .i64 ((0 : Int) - ((0 : Nat) : Int))))) < ((17592186044416 : Nat) : Int)) then (if (0 ≤ ((0 : Nat) : Int) ∧ ((0 : Nat) : Int) ≤ ((List.length (List.replicate (Int.toNat (wr .i64 (a1 - (wr .i64 ((0 : Int) - ((0 : Nat) : Int)))))) (0 : Int)) : Nat) : Int)) then (some [.own tI (List.take (Int.toNat ((0 : Nat) : Int)) (List.replicate (Int.toNat (wr .i64 (a1 - (wr .i64 ((0 : Int) - ((0 : Nat) : Int)))))) (0 : Int)))]) else none) else none) else none) else (some [.own tI ([] : List Int)]))) = some r) : CG 121 [.nil, .val tI a1] = some r := limC_run (f := cf_slices_Grow_int_int) (by kernel_rfl) (by kernel_rfl) (Eq.trans (by kernel_rfl) h)
end Pm
end
section
/- Polygons on the grid: what the program computes, over lists of pairs of whole numbers. -/
namespace Geo
abbrev IP := Int × Int
/-- twice the signed area of a triangle -/
def crI (a b c : IP) : Int := (b.1 - a.1) * (c.2 - a.2) - (b.2 - a.2) * (c.1 - a.1)
def BetI (a b q : IP) : Prop := crI a b q = 0 ∧ (min a.1 b.1 ≤ q.1 ∧ q.1 ≤ max a.1 b.1) ∧ (min a.2 b.2 ≤ q.2 ∧ q.2 ≤ max a.2 b.2)
def DivI (a b p q : IP) : Prop := (crI a b p < 0 ∧ 0 < crI a b q) ∨ (0 < crI a b p ∧ crI a b q < 0)
def MeetI (a b c d : IP) : Prop := BetI a b c ∨ BetI a b d ∨ BetI c d a ∨ BetI c d b ∨ (DivI a b c d ∧ DivI c d a b)
def nth (P : List IP) (i : Nat) : IP := P.getD (i % P.length) (0, 0)
/-- the program's test of a simple polygon -/
def SimpI (P : List IP) : Prop := ∀ i, i < P.length → nth P i ≠ nth P (i + 1) ∧ ¬ BetI (nth P i) (nth P (i + 1)) (nth P (i + 2)) ∧ ¬ BetI (nth P (i + 1)) (nth P (i + 2)) (nth P i) ∧
  ∀ k, i + 2 ≤ k → k < P.length → ¬ (i = 0 ∧ k = P.length - 1) → ¬ MeetI (nth P i) (nth P (i + 1)) (nth P k) (nth P (k + 1))
def insI (n : Int) : Prop := -1048576 ≤ n ∧ n ≤ 1048576
instance (n : Int) : Decidable (insI n) := inferInstanceAs (Decidable (_ ∧ _))
def InsI (P : List IP) : Prop := ∀ s ∈ P, insI s.1 ∧ insI s.2
open Classical in
noncomputable def chk (P : List IP) : Int := if 40 < P.length then 5 else if P.length < 3 then 11 else if ¬ InsI P then 3 else if SimpI P then 0 else 11
theorem chk_ok {P : List IP} : chk P = 0 ↔ P.length ≤ 40 ∧ 3 ≤ P.length ∧ InsI P ∧ SimpI P := by
  unfold chk
  constructor
  · intro h
    split at h
    · simp at h
    · split at h
      · simp at h
      · split at h
        · simp at h
        · split at h
          · rename_i h1 h2 h3 h4
            exact ⟨by omega, by omega, Classical.not_not.1 h3, h4⟩
          · simp at h
  · rintro ⟨h1, h2, h3, h4⟩
    rw [if_neg (by omega), if_neg (by omega), if_neg (by simpa using h3), if_pos h4]
theorem prod_bound {x y M : Int} (h1 : -M ≤ x) (h2 : x ≤ M) (h3 : -M ≤ y) (h4 : y ≤ M) : -(M * M) ≤ x * y ∧ x * y ≤ M * M := by
  have hM : 0 ≤ M := by omega
  have a := Int.mul_nonneg (show 0 ≤ M - x by omega) (show 0 ≤ M + y by omega)
  have b := Int.mul_nonneg (show 0 ≤ M + x by omega) (show 0 ≤ M - y by omega)
  have c := Int.mul_nonneg (show 0 ≤ M - x by omega) (show 0 ≤ M - y by omega)
  have d := Int.mul_nonneg (show 0 ≤ M + x by omega) (show 0 ≤ M + y by omega)
  constructor <;> grind
theorem nth_in {P : List IP} (h : P ≠ []) (i : Nat) : nth P i ∈ P := by
  have hl : 0 < P.length := List.length_pos_iff.2 h
  have hm := Nat.mod_lt i hl
  have : P.getD (i % P.length) (0, 0) = P[i % P.length] := by simp [List.getD, hm]
  unfold nth
  rw [this]
  exact List.getElem_mem _
end Geo
end
section
/- Polygons on the grid: sums along the sides, the position of a point, the area; the opposite order. -/
namespace Geo
theorem nth_modl (P : List IP) (i : Nat) : nth P (i % P.length) = nth P i := by unfold nth; rw [Nat.mod_mod]
end Geo
end
section
/- Polygons on the grid: points outside of the box, moved polygons. -/
namespace Geo
/-! moved polygons -/
def mvp (d s : IP) : IP := (s.1 + d.1, s.2 + d.2)
def mvI (d : IP) (P : List IP) : List IP := P.map (mvp d)
theorem mv_len (d : IP) (P : List IP) : (mvI d P).length = P.length := by simp [mvI]
theorem nth_mv {d : IP} {P : List IP} (hP : P ≠ []) (i : Nat) : nth (mvI d P) i = mvp d (nth P i) := by
  have hm : i % P.length < P.length := Nat.mod_lt _ (List.length_pos_iff.2 hP)
  unfold nth
  rw [mv_len]
  unfold mvI
  simp only [List.getD, List.getElem?_map, List.getElem?_eq_getElem hm, Option.map_some, Option.getD_some]
theorem cr_mv (d a b c : IP) : crI (mvp d a) (mvp d b) (mvp d c) = crI a b c := by unfold crI mvp; grind
theorem bet_mv {d a b q : IP} : BetI (mvp d a) (mvp d b) (mvp d q) ↔ BetI a b q := by
  unfold BetI
  rw [cr_mv]
  unfold mvp
  simp only
  omega
theorem meet_mv {d a b c e : IP} : MeetI (mvp d a) (mvp d b) (mvp d c) (mvp d e) ↔ MeetI a b c e := by unfold MeetI DivI; simp only [bet_mv, cr_mv]
theorem mvp_inj {d a b : IP} : mvp d a = mvp d b ↔ a = b := by
  unfold mvp
  constructor
  · intro h; simp only [Prod.mk.injEq] at h; exact Prod.ext (by omega) (by omega)
  · rintro rfl; rfl
theorem simp_mv {d : IP} {P : List IP} (hP : P ≠ []) : SimpI (mvI d P) ↔ SimpI P := by
  unfold SimpI
  simp only [mv_len, nth_mv hP, bet_mv, meet_mv, ne_eq, mvp_inj]
end Geo
end
section
/- Small words for the plain proofs. -/
namespace Pl
open Go Geo Pm
theorem pos {α : Type} {c : Prop} {inst : Decidable c} {A B : Option α} {r : α} (h : c) (hA : A = some r) : @ite _ c inst A B = some r := by rw [if_pos h]; exact hA
theorem neg {α : Type} {c : Prop} {inst : Decidable c} {A B : Option α} {r : α} (h : ¬ c) (hB : B = some r) : @ite _ c inst A B = some r := by rw [if_neg h]; exact hB
theorem bnd {α β : Type} {o : Option α} {f : α → Option β} {v : α} {r : β} (ho : o = some v) (h : f v = some r) : o.bind f = some r := by rw [ho]; exact h
theorem wr_def (x : Int) : wr .i64 x = if x % 18446744073709551616 ≥ 9223372036854775808 then x % 18446744073709551616 - 18446744073709551616 else x % 18446744073709551616 := by
  show IntKind.wrap .i64 x = _
  unfold IntKind.wrap
  simp [IntKind.bits, IntKind.signed]
theorem wr64 {x : Int} (h : -9223372036854775808 ≤ x) (h2 : x ≤ 9223372036854775807) : wr .i64 x = x := by rw [wr_def]; omega
theorem wrS {i : Nat} (h : i < 4611686018427387904) : wr .i64 ((i : Int) + 1) = ((i + 1 : Nat) : Int) := by rw [wr64 (by omega) (by omega)]; rfl
theorem wrS2 {i : Nat} (h : i < 4611686018427387904) : wr .i64 ((i : Int) + 2) = ((i + 2 : Nat) : Int) := by rw [wr64 (by omega) (by omega)]; rfl
theorem dt {p : Prop} [Decidable p] (h : p) : decide p = true := decide_eq_true h
theorem df {p : Prop} [Decidable p] (h : ¬ p) : ¬ decide p = true := by simpa using h
theorem ixn {n i : Nat} (h : i < n) : (0 : Int) ≤ (i : Int) ∧ (i : Int) < (n : Int) := by omega
theorem ilt {n i : Nat} (h : i < n) : decide ((i : Int) < (n : Int)) = true := decide_eq_true (by omega)
theorem ige {n i : Nat} (h : n ≤ i) : ¬ decide ((i : Int) < (n : Int)) = true := by simp only [decide_eq_true_eq]; omega
theorem tmod_nat (m n : Nat) : Int.tmod (m : Int) (n : Int) = ((m % n : Nat) : Int) := rfl
theorem nth_getD {P : List IP} {i : Nat} (h : i < P.length) : P.getD i (0, 0) = nth P i := by unfold nth; rw [Nat.mod_eq_of_lt h]
theorem getD_in {α : Type} {l : List α} {i : Nat} (h : i < l.length) (z : α) : l.getD i z ∈ l := by simp [List.getD, h]
theorem getD_eq {α : Type} {l : List α} {i : Nat} (h : i < l.length) (z : α) : l.getD i z = l[i] := by simp [List.getD, h]
theorem set_fill {α : Type} (f : Nat → α) (z : α) (n i : Nat) : ((List.range n).map (fun j => if j < i then f j else z)).set i (f i) = (List.range n).map (fun j => if j < i + 1 then f j else z) := by
  apply List.ext_getElem
  · simp
  · intro j h1 h2
    simp only [List.length_set, List.length_map, List.length_range] at h1 h2
    rw [List.getElem_set]
    simp only [List.getElem_map, List.getElem_range]
    by_cases h : i = j
    · subst h; simp
    · simp only [h, if_false]; by_cases h3 : j < i
      · rw [if_pos h3, if_pos (by omega)]
      · rw [if_neg h3, if_neg (by omega)]
theorem fill_start {α : Type} (f : Nat → α) (z : α) (n : Nat) : (List.range n).map (fun j => if j < 0 then f j else z) = List.replicate n z := by
  apply List.ext_getElem <;> simp
theorem fill_end {α : Type} (f : Nat → α) (z : α) (n : Nat) : (List.range n).map (fun j => if j < n then f j else z) = (List.range n).map f := by
  apply List.map_congr_left; intro j hj; rw [if_pos (List.mem_range.1 hj)]
theorem range_getD {α : Type} (f : Nat → α) {n i : Nat} (h : i < n) (z : α) : ((List.range n).map f).getD i z = f i := by simp [List.getD, h]
theorem drop_cons {α : Type} {l : List α} {i : Nat} (h : i < l.length) : l.drop i = l[i] :: l.drop (i + 1) := List.drop_eq_getElem_cons h
/-- a spot within the bounds -/
def insP (s : IP) : Prop := insI s.1 ∧ insI s.2
end Pl
end
section
/- What the program's polygon functions compute: the test of a polygon. -/
namespace Pl
open Go Geo Pm
theorem insP_of {P : List IP} (h : InsI P) (hP : P ≠ []) (i : Nat) : insP (nth P i) := h _ (nth_in hP i)
theorem cr_bound {a b c : IP} (ha : insP a) (hb : insP b) (hc : insP c) : -8796093022208 ≤ crI a b c ∧ crI a b c ≤ 8796093022208 := by
  obtain ⟨a1, a2⟩ := ha; obtain ⟨b1, b2⟩ := hb; obtain ⟨c1, c2⟩ := hc
  unfold insI at *
  have h1 := prod_bound (x := b.1 - a.1) (y := c.2 - a.2) (M := 2097152) (by omega) (by omega) (by omega) (by omega)
  have h2 := prod_bound (x := b.2 - a.2) (y := c.1 - a.1) (M := 2097152) (by omega) (by omega) (by omega) (by omega)
  unfold crI
  omega
theorem turn_w {a b c : IP} (ha : insP a) (hb : insP b) (hc : insP c) : wr .i64 (wr .i64 (wr .i64 (b.1 - a.1) * wr .i64 (c.2 - b.2)) - wr .i64 (wr .i64 (b.2 - a.2) * wr .i64 (c.1 - b.1))) = crI a b c := by
  have e : (b.1 - a.1) * (c.2 - b.2) - (b.2 - a.2) * (c.1 - b.1) = crI a b c := by unfold crI; grind
  have hc' := cr_bound ha hb hc
  obtain ⟨a1, a2⟩ := ha; obtain ⟨b1, b2⟩ := hb; obtain ⟨c1, c2⟩ := hc
  unfold insI at *
  have h1 := prod_bound (x := b.1 - a.1) (y := c.2 - b.2) (M := 2097152) (by omega) (by omega) (by omega) (by omega)
  have h2 := prod_bound (x := b.2 - a.2) (y := c.1 - b.1) (M := 2097152) (by omega) (by omega) (by omega) (by omega)
  rw [wr64 (x := b.1 - a.1) (by omega) (by omega), wr64 (x := c.2 - b.2) (by omega) (by omega), wr64 (x := b.2 - a.2) (by omega) (by omega), wr64 (x := c.1 - b.1) (by omega) (by omega), wr64 (x := (b.1 - a.1) * (c.2 - b.2)) (by omega) (by omega), wr64 (x := (b.2 - a.2) * (c.1 - b.1)) (by omega) (by omega), e, wr64 (by omega) (by omega)]
theorem turn_ok {a b c : IP} (ha : insP a) (hb : insP b) (hc : insP c) : callT CG [.v tI] 14 [.val t0 a, .val t0 b, .val t0 c] = some (crI a b c) :=
  callT_of (polygon_turn_st a b c (by rw [turn_w ha hb hc])) rfl
theorem min_if (a b : Int) : (if b < a then b else a) = min a b := by omega
theorem max_if (a b : Int) : (if b > a then b else a) = max a b := by omega
theorem within_ok (n a b : Int) : callT CG [.v .bool] 25 [.val tI n, .val tI a, .val tI b] = some (decide (min a b ≤ n ∧ n ≤ max a b)) := by
  refine callT_of (polygon_within_st n a b (r := [.val .bool (decide (min a b ≤ n ∧ n ≤ max a b))]) ?_) rfl
  rw [min_if, max_if]
  by_cases h : min a b ≤ n
  · refine pos (dt h) ?_; simp [h]
  · refine neg (df h) ?_; simp [h]
open Classical in
theorem holds_ok {a b q : IP} (ha : insP a) (hb : insP b) (hq : insP q) : callT CG [.v .bool] 23 [.val t1 (a, b), .val t0 q] = some (decide (BetI a b q)) := by
  refine callT_of (polygon_side_holds_st (a, b) q (r := [.val .bool (decide (BetI a b q))]) ?_) rfl
  refine bnd (turn_ok ha hb hq) ?_
  by_cases h : crI a b q = 0
  · refine pos (by simp [h]) ?_
    refine bnd (within_ok _ _ _) ?_
    by_cases h1 : min a.1 b.1 ≤ q.1 ∧ q.1 ≤ max a.1 b.1
    · refine pos (dt h1) ?_
      refine bnd (within_ok _ _ _) ?_
      by_cases h2 : min a.2 b.2 ≤ q.2 ∧ q.2 ≤ max a.2 b.2
      · have h3 : BetI a b q := ⟨h, h1, h2⟩
        simp only [h2, h3, and_self, decide_true]
      · have h3 : ¬ BetI a b q := fun x => h2 x.2.2
        simp only [h2, h3, decide_false]
    · refine neg (df h1) ?_
      have h3 : ¬ BetI a b q := fun x => h1 x.2.1
      simp only [h3, decide_false]
  · refine neg (by simp [h]) ?_
    have h3 : ¬ BetI a b q := fun x => h x.1
    simp only [h3, decide_false]
open Classical in
theorem divides_ok {a b p q : IP} (ha : insP a) (hb : insP b) (hp : insP p) (hq : insP q) : callT CG [.v .bool] 26 [.val t1 (a, b), .val t0 p, .val t0 q] = some (decide (DivI a b p q)) := by
  refine callT_of (polygon_side_divides_st (a, b) p q (r := [.val .bool (decide (DivI a b p q))]) ?_) rfl
  refine bnd (turn_ok ha hb hp) (bnd (turn_ok ha hb hq) ?_)
  have two : ∀ {x y : Int} {r : Bool}, (decide (0 < x ∧ y < 0) = r) → (if decide (x > (0 : Int)) = true then some [D.val .bool (decide (y < (0 : Int)))] else some [D.val .bool false]) = some [D.val .bool r] := by
    rintro x y r rfl
    by_cases hx : x > 0
    · rw [if_pos (dt hx)]; simp [show 0 < x from hx]
    · rw [if_neg (df hx)]; simp [hx]
  by_cases h1 : crI a b p < 0
  · refine pos (dt h1) ?_
    by_cases h2 : crI a b q > 0
    · refine pos (dt h2) ?_; rw [decide_eq_true (show DivI a b p q from Or.inl ⟨h1, h2⟩)]
    · refine neg (df h2) (two (x := crI a b p) (y := crI a b q) ?_)
      rw [decide_eq_false (show ¬ DivI a b p q from fun h => by rcases h with h | h <;> omega)]
      exact decide_eq_false (by omega)
  · refine neg (df h1) (two (x := crI a b p) (y := crI a b q) ?_)
    apply decide_eq_decide.2
    unfold DivI
    omega
open Classical in
theorem meets_ok {a b c d : IP} (ha : insP a) (hb : insP b) (hc : insP c) (hd : insP d) : callT CG [.v .bool] 24 [.val t1 (a, b), .val t1 (c, d)] = some (decide (MeetI a b c d)) := by
  refine callT_of (polygon_side_meets_st (a, b) (c, d) (r := [.val .bool (decide (MeetI a b c d))]) ?_) rfl
  refine bnd (holds_ok ha hb hc) ?_
  by_cases h1 : BetI a b c
  · refine pos (dt h1) ?_; rw [decide_eq_true (show MeetI a b c d from Or.inl h1)]
  refine neg (df h1) (bnd (holds_ok ha hb hd) ?_)
  by_cases h2 : BetI a b d
  · refine pos (dt h2) ?_; rw [decide_eq_true (show MeetI a b c d from Or.inr (Or.inl h2))]
  refine neg (df h2) (bnd (holds_ok hc hd ha) ?_)
  by_cases h3 : BetI c d a
  · refine pos (dt h3) ?_; rw [decide_eq_true (show MeetI a b c d from Or.inr (Or.inr (Or.inl h3)))]
  refine neg (df h3) (bnd (holds_ok hc hd hb) ?_)
  by_cases h4 : BetI c d b
  · refine pos (dt h4) ?_; rw [decide_eq_true (show MeetI a b c d from Or.inr (Or.inr (Or.inr (Or.inl h4))))]
  refine neg (df h4) (bnd (divides_ok ha hb hc hd) ?_)
  by_cases h5 : DivI a b c d
  · refine pos (dt h5) (bnd (divides_ok hc hd ha hb) ?_)
    rw [show decide (MeetI a b c d) = decide (DivI c d a b) from decide_eq_decide.2 (by unfold MeetI; simp [h1, h2, h3, h4, h5])]
  · refine neg (df h5) ?_
    rw [decide_eq_false (show ¬ MeetI a b c d from by unfold MeetI; simp [h1, h2, h3, h4, h5])]
/-- the sides -/
def sds (P : List IP) : List (IP × IP) := (List.range P.length).map fun i => (nth P i, nth P (i + 1))
theorem sds_len (P : List IP) : (sds P).length = P.length := by simp [sds]
theorem sds_get {P : List IP} {i : Nat} (h : i < P.length) (z : IP × IP) : (sds P).getD i z = (nth P i, nth P (i + 1)) := range_getD (fun i => (nth P i, nth P (i + 1))) h z
theorem sides_lp (P : List IP) (hl : P.length < 4611686018427387904) : ∀ (k i : Nat), i + k = P.length →
    polygon_sides_lp1 CG P P P (P.length : Int) (i : Int) ((List.range P.length).map fun j => if j < i then (nth P j, nth P (j + 1)) else ((0, 0), (0, 0))) = some [.own t1 (sds P)]
  | 0, i, h => by
    refine polygon_sides_lp1_st _ _ _ _ _ _ ?_
    refine neg (ige (by omega)) ?_
    obtain rfl : i = P.length := by omega
    rw [fill_end (fun j => (nth P j, nth P (j + 1)))]; rfl
  | k + 1, i, h => by
    have hi : i < P.length := by omega
    refine polygon_sides_lp1_st _ _ _ _ _ _ ?_
    refine pos (ilt hi) (pos (ixn hi) (pos (by omega) ?_))
    rw [wrS (by omega), tmod_nat]
    have hm := Nat.mod_lt (i + 1) (show 0 < P.length by omega)
    refine pos (ixn hm) (pos (by simp; omega) ?_)
    simp only [Int.toNat_natCast]
    rw [nth_getD hi, show P.getD ((i + 1) % P.length) (0, 0) = nth P (i + 1) from rfl, set_fill (fun j => (nth P j, nth P (j + 1)))]
    exact sides_lp P hl k (i + 1) (by omega)
theorem sides_ok {P : List IP} (hl : P.length < 8796093022208) : callT CG [.o t1] 22 [.val (.sl t0) P] = some (sds P) := by
  refine callT_of (polygon_sides_st P (r := [.own t1 (sds P)]) ?_) rfl
  refine pos (by omega) ?_
  rw [Int.toNat_natCast, ← fill_start (fun j => (nth P j, nth P (j + 1)))]
  exact sides_lp P (by omega) P.length 0 (by omega)
end Pl
end
section
/- The program's test of a polygon. -/
namespace Pl
open Go Geo Pm
def RowI (P : List IP) (i : Nat) : Prop := nth P i ≠ nth P (i + 1) ∧ ¬ BetI (nth P i) (nth P (i + 1)) (nth P (i + 2)) ∧ ¬ BetI (nth P (i + 1)) (nth P (i + 2)) (nth P i) ∧
  ∀ k, i + 2 ≤ k → k < P.length → ¬ (i = 0 ∧ k = P.length - 1) → ¬ MeetI (nth P i) (nth P (i + 1)) (nth P k) (nth P (k + 1))
def RowsI (P : List IP) (i : Nat) : Prop := ∀ j, i ≤ j → j < P.length → RowI P j
theorem rows0 (P : List IP) : RowsI P 0 ↔ SimpI P := ⟨fun h i hi => h i (Nat.zero_le _) hi, fun h j _ hj => h j hj⟩
theorem rowsS {P : List IP} {i : Nat} (hi : i < P.length) : RowsI P i ↔ RowI P i ∧ RowsI P (i + 1) :=
  ⟨fun h => ⟨h i (Nat.le_refl _) hi, fun j h1 h2 => h j (by omega) h2⟩, fun h j h1 h2 => by
    by_cases e : j = i
    · rw [e]; exact h.1
    · exact h.2 j (by omega) h2⟩
theorem eq_pair (a b : IP) : ((a.1 == b.1) && (a.2 == b.2)) = true ↔ a = b := by
  rw [Bool.and_eq_true, beq_iff_eq, beq_iff_eq]; exact ⟨fun h => Prod.ext h.1 h.2, fun h => by rw [h]; exact ⟨rfl, rfl⟩⟩
theorem nth_mod1 (P : List IP) (i : Nat) : nth P ((i + 1) % P.length) = nth P (i + 1) := nth_modl P (i + 1)
theorem nth_mod2 (P : List IP) (i : Nat) : nth P ((i + 1) % P.length + 1) = nth P (i + 2) := by unfold nth; rw [Nat.mod_add_mod]
def Beyond (P : List IP) (i k : Nat) : Prop := ∀ k', k ≤ k' → k' < P.length → ¬ (i = 0 ∧ k' = P.length - 1) → ¬ MeetI (nth P i) (nth P (i + 1)) (nth P k') (nth P (k' + 1))
theorem beyondS {P : List IP} {i k : Nat} (hk : k < P.length) : Beyond P i k ↔ (¬ (i = 0 ∧ k = P.length - 1) → ¬ MeetI (nth P i) (nth P (i + 1)) (nth P k) (nth P (k + 1))) ∧ Beyond P i (k + 1) :=
  ⟨fun h => ⟨h k (Nat.le_refl _) hk, fun j h1 h2 => h j (by omega) h2⟩, fun h j h1 h2 => by
    by_cases e : j = k
    · rw [e]; exact h.1
    · exact h.2 j (by omega) h2⟩
open Classical in
theorem simple_lp2 {P : List IP} (hl : P.length < 4611686018427387904) (hb : InsI P) {i : Nat} (hi : i < P.length)
    (hn : polygon_simple_lp1 CG P (P.length : Int) ((i + 1 : Nat) : Int) (sds P) = some [.val .bool (decide (RowsI P (i + 1)))]) : ∀ (m k : Nat), k + m = P.length →
    polygon_simple_lp2 CG P (i : Int) (k : Int) (P.length : Int) (i : Int) (sds P) (nth P i, nth P (i + 1)) = some [.val .bool (decide (Beyond P i k ∧ RowsI P (i + 1)))]
  | 0, k, h => by
    refine polygon_simple_lp2_st _ _ _ _ _ _ _ ?_
    rw [sds_len]
    refine neg (ige (by omega)) ?_
    rw [wrS (by omega), hn, show decide (Beyond P i k ∧ RowsI P (i + 1)) = decide (RowsI P (i + 1)) from decide_eq_decide.2 ⟨fun h => h.2, fun h' => ⟨fun k' h1 h2 => by omega, h'⟩⟩]
  | m + 1, k, h => by
    have hk : k < P.length := by omega
    have hP : P ≠ [] := by rintro rfl; cases hi
    have ih := simple_lp2 hl hb hi hn m (k + 1) (by omega)
    have go : ¬ (i = 0 ∧ k = P.length - 1) → ∀ A : Option R, (((callT CG [.v .bool] 24 [.val t1 (nth P i, nth P (i + 1)), .val t1 ((sds P).getD (Int.toNat (k : Int)) ((0, 0), (0, 0)))]).bind fun r1 => (if r1 = true then (some [.val .bool false]) else (polygon_simple_lp2 CG P (i : Int) (wr .i64 ((k : Int) + 1)) (P.length : Int) (i : Int) (sds P) (nth P i, nth P (i + 1)))))) = A → A = some [.val .bool (decide (Beyond P i k ∧ RowsI P (i + 1)))] := by
      rintro hs A rfl
      rw [Int.toNat_natCast, sds_get hk]
      refine bnd (meets_ok (insP_of hb hP _) (insP_of hb hP _) (insP_of hb hP _) (insP_of hb hP _)) ?_
      by_cases hm : MeetI (nth P i) (nth P (i + 1)) (nth P k) (nth P (k + 1))
      · refine pos (dt hm) ?_
        rw [decide_eq_false (fun h' => (beyondS hk).1 h'.1 |>.1 hs hm)]
      · refine neg (df hm) ?_
        rw [wrS (by omega), ih]
        rw [show decide (Beyond P i k ∧ RowsI P (i + 1)) = decide (Beyond P i (k + 1) ∧ RowsI P (i + 1)) from decide_eq_decide.2 (by rw [beyondS hk]; simp [hm])]
    refine polygon_simple_lp2_st _ _ _ _ _ _ _ ?_
    rw [sds_len]
    refine pos (ilt hk) ?_
    by_cases h0 : i = 0
    · refine pos (by simp [h0]) ?_
      rw [wr64 (x := (P.length : Int) - 1) (by omega) (by omega)]
      by_cases h1 : k = P.length - 1
      · refine pos (by simp only [beq_iff_eq]; omega) ?_
        rw [wrS (by omega), ih]
        rw [show decide (Beyond P i k ∧ RowsI P (i + 1)) = decide (Beyond P i (k + 1) ∧ RowsI P (i + 1)) from decide_eq_decide.2 (by rw [beyondS hk]; simp [h0, h1])]
      · refine neg (by simp only [beq_iff_eq]; omega) (pos (ixn hk) (go (by omega) _ rfl))
    · refine neg (by simp only [beq_iff_eq]; omega) (pos (ixn hk) (go (by omega) _ rfl))
open Classical in
theorem simple_lp1 {P : List IP} (hl : P.length < 4611686018427387904) (hb : InsI P) : ∀ (m i : Nat), i + m = P.length →
    polygon_simple_lp1 CG P (P.length : Int) (i : Int) (sds P) = some [.val .bool (decide (RowsI P i))]
  | 0, i, h => by
    refine polygon_simple_lp1_st _ _ _ _ ?_
    refine neg (ige (by omega)) ?_
    rw [decide_eq_true (show RowsI P i from fun j h1 h2 => by omega)]
  | m + 1, i, h => by
    have hi : i < P.length := by omega
    have hP : P ≠ [] := by rintro rfl; cases hi
    have hm := Nat.mod_lt (i + 1) (show 0 < P.length by omega)
    refine polygon_simple_lp1_st _ _ _ _ ?_
    simp only [sds_len, Int.toNat_natCast, sds_get hi, wrS (show i < 4611686018427387904 by omega), tmod_nat, sds_get hm, nth_mod1, nth_mod2]
    refine pos (ilt hi) (pos (ixn hi) ?_)
    by_cases h1 : nth P i = nth P (i + 1)
    · refine pos ((eq_pair _ _).2 h1) ?_
      rw [decide_eq_false (show ¬ RowsI P i from fun h' => ((rowsS hi).1 h').1.1 h1)]
    refine neg (fun h' => h1 ((eq_pair _ _).1 h')) (pos (by omega) (pos (ixn hm) ?_))
    refine bnd (holds_ok (insP_of hb hP _) (insP_of hb hP _) (insP_of hb hP _)) ?_
    by_cases h2 : BetI (nth P i) (nth P (i + 1)) (nth P (i + 2))
    · refine pos (dt h2) ?_
      rw [decide_eq_false (show ¬ RowsI P i from fun h' => ((rowsS hi).1 h').1.2.1 h2)]
    refine neg (df h2) (bnd (holds_ok (insP_of hb hP _) (insP_of hb hP _) (insP_of hb hP _)) ?_)
    by_cases h3 : BetI (nth P (i + 1)) (nth P (i + 2)) (nth P i)
    · refine pos (dt h3) ?_
      rw [decide_eq_false (show ¬ RowsI P i from fun h' => ((rowsS hi).1 h').1.2.2.1 h3)]
    refine neg (df h3) ?_
    rw [wrS2 (by omega)]
    have e : decide (RowsI P i) = decide (Beyond P i (i + 2) ∧ RowsI P (i + 1)) := decide_eq_decide.2 (by
      rw [rowsS hi]
      exact ⟨fun h' => ⟨h'.1.2.2.2, h'.2⟩, fun h' => ⟨⟨h1, h2, h3, h'.1⟩, h'.2⟩⟩)
    rw [e]
    have hn := simple_lp1 hl hb m (i + 1) (by omega)
    by_cases hk : i + 2 ≤ P.length
    · exact simple_lp2 hl hb hi hn (P.length - (i + 2)) (i + 2) (by omega)
    · refine polygon_simple_lp2_st _ _ _ _ _ _ _ ?_
      rw [sds_len]
      refine neg (ige (by omega)) ?_
      rw [wrS (by omega), hn, show decide (Beyond P i (i + 2) ∧ RowsI P (i + 1)) = decide (RowsI P (i + 1)) from decide_eq_decide.2 ⟨fun h => h.2, fun h' => ⟨fun k' h1 h2 => by omega, h'⟩⟩]
open Classical in
theorem simple_ok {P : List IP} (hl : P.length < 8796093022208) (hb : InsI P) : callT CG [.v .bool] 21 [.val (.sl t0) P] = some (decide (SimpI P)) := by
  refine callT_of (polygon_simple_st P (r := [.val .bool (decide (SimpI P))]) ?_) rfl
  refine bnd (sides_ok hl) ?_
  have := simple_lp1 (by omega) hb P.length 0 (by omega)
  rw [sds_len, show decide (SimpI P) = decide (RowsI P 0) from decide_eq_decide.2 (rows0 P).symm]
  exact this
theorem inside_ok (n : Int) : callT CG [.v .bool] 20 [.val tI n] = some (decide (insI n)) := by
  refine callT_of (polygon_inside_st n (r := [.val .bool (decide (insI n))]) ?_) rfl
  by_cases h : n ≥ -1048576
  · refine pos (dt h) ?_; rw [show decide (n ≤ (1048576 : Int)) = decide (insI n) from decide_eq_decide.2 (by unfold insI; omega)]
  · refine neg (df h) ?_; rw [decide_eq_false (show ¬ insI n from fun h' => h h'.1)]
open Classical in
theorem check_lp {P : List IP} (h3 : 3 ≤ P.length) (h40 : P.length ≤ 40) : ∀ (m i : Nat), i + m = P.length → (∀ s ∈ P.take i, insP s) →
    polygon_Check_lp1 CG P P P (P.length : Int) (i : Int) = some [.val tI (chk P)]
  | 0, i, h, hb => by
    have hb : InsI P := by rw [List.take_of_length_le (by omega)] at hb; exact hb
    refine polygon_Check_lp1_st _ _ _ _ _ ?_
    have hc : chk P = if SimpI P then 0 else 11 := by
      unfold chk
      rw [if_neg (by omega), if_neg (by omega), if_neg (fun h' => h' hb)]
    refine neg (ige (by omega)) (bnd (simple_ok (by omega) hb) ?_)
    by_cases hs : SimpI P
    · refine neg (by simp [hs]) ?_; rw [hc, if_pos hs]
    · refine pos (by simp [hs]) ?_; rw [hc, if_neg hs]
  | m + 1, i, h, hb => by
    have hi : i < P.length := by omega
    have bad : ¬ insP P[i] → chk P = 3 := fun hn => by
      unfold chk
      rw [if_neg (by omega), if_neg (by omega), if_pos (fun h' => hn (h' _ (List.getElem_mem hi)))]
    refine polygon_Check_lp1_st _ _ _ _ _ ?_
    rw [Int.toNat_natCast, getD_eq hi]
    refine pos (ilt hi) (pos (ixn hi) (bnd (inside_ok _) ?_))
    by_cases h1 : insI P[i].1
    · refine neg (by simp [h1]) (bnd (inside_ok _) ?_)
      by_cases h2 : insI P[i].2
      · refine neg (by simp [h2]) ?_
        rw [wrS (by omega)]
        refine check_lp h3 h40 m (i + 1) (by omega) ?_
        intro s hs
        rw [List.take_succ_eq_append_getElem hi, List.mem_append] at hs
        rcases hs with hs | hs
        · exact hb s hs
        · rw [List.mem_singleton.1 hs]; exact ⟨h1, h2⟩
      · refine pos (by simp [h2]) ?_
        rw [bad (fun h' => h2 h'.2)]
    · refine pos (by simp [h1]) ?_
      rw [bad (fun h' => h1 h'.1)]
theorem check_cg (P : List IP) : CG 13 [.val (.sl t0) P] = some [.val tI (chk P)] := by
  refine polygon_Check_st P ?_
  by_cases h1 : 40 < P.length
  · refine pos (dt (by omega)) ?_; unfold chk; rw [if_pos h1]
  refine neg (df (by omega)) ?_
  by_cases h2 : P.length < 3
  · refine pos (dt (by omega)) ?_; unfold chk; rw [if_neg h1, if_pos h2]
  refine neg (df (by omega)) ?_
  exact check_lp (by omega) (by omega) P.length 0 (by omega) (by simp)
theorem check_ok (P : List IP) : callT CG [.v tI] 13 [.val (.sl t0) P] = some (chk P) := callT_of (check_cg P) rfl
end Pl
end
section
/- What the reference's polygon functions compute: the test of a polygon. -/
namespace Pl
open Go Geo Pm
theorem cross_w {a b c : IP} (ha : insP a) (hb : insP b) (hc : insP c) : wr .i64 (wr .i64 (wr .i64 (b.1 - a.1) * wr .i64 (c.2 - a.2)) - wr .i64 (wr .i64 (b.2 - a.2) * wr .i64 (c.1 - a.1))) = crI a b c := by
  have hc' := cr_bound ha hb hc
  obtain ⟨a1, a2⟩ := ha; obtain ⟨b1, b2⟩ := hb; obtain ⟨c1, c2⟩ := hc
  unfold insI at *
  have h1 := prod_bound (x := b.1 - a.1) (y := c.2 - a.2) (M := 2097152) (by omega) (by omega) (by omega) (by omega)
  have h2 := prod_bound (x := b.2 - a.2) (y := c.1 - a.1) (M := 2097152) (by omega) (by omega) (by omega) (by omega)
  unfold crI at *
  rw [wr64 (x := b.1 - a.1) (by omega) (by omega), wr64 (x := c.2 - a.2) (by omega) (by omega), wr64 (x := b.2 - a.2) (by omega) (by omega), wr64 (x := c.1 - a.1) (by omega) (by omega), wr64 (x := (b.1 - a.1) * (c.2 - a.2)) (by omega) (by omega), wr64 (x := (b.2 - a.2) * (c.1 - a.1)) (by omega) (by omega), wr64 (by omega) (by omega)]
theorem cross_ok {a b c : IP} (ha : insP a) (hb : insP b) (hc : insP c) : callT CG [.v tI] 33 [.val t0 a, .val t0 b, .val t0 c] = some (crI a b c) :=
  callT_of (garmentref11_Cross_st a b c (by rw [cross_w ha hb hc])) rfl
def sgI (n : Int) : Int := if n > 0 then 1 else if n < 0 then -1 else 0
theorem sign_ok (n : Int) : callT CG [.v tI] 72 [.val tI n] = some (sgI n) := by
  refine callT_of (garmentref11_sign_st n (r := [.val tI (sgI n)]) ?_) rfl
  unfold sgI
  simp only [decide_eq_true_eq]
  (repeat' split) <;> rfl
open Classical in
theorem between_ok {a b q : IP} (ha : insP a) (hb : insP b) (hq : insP q) : callT CG [.v .bool] 70 [.val t0 a, .val t0 b, .val t0 q] = some (decide (BetI a b q)) := by
  refine callT_of (garmentref11_Between_st a b q (r := [.val .bool (decide (BetI a b q))]) ?_) rfl
  refine bnd (cross_ok ha hb hq) ?_
  rw [min_if, max_if, min_if, max_if]
  have no : ¬ BetI a b q → some [D.val .bool false] = some [D.val .bool (decide (BetI a b q))] := fun h => by rw [decide_eq_false h]
  by_cases h : crI a b q = 0
  · refine pos (by simp [h]) ?_
    by_cases h1 : min a.1 b.1 ≤ q.1
    · refine pos (dt h1) ?_
      by_cases h2 : q.1 ≤ max a.1 b.1
      · refine pos (dt h2) ?_
        by_cases h3 : min a.2 b.2 ≤ q.2
        · refine pos (dt h3) ?_
          rw [show decide (q.2 ≤ max a.2 b.2) = decide (BetI a b q) from decide_eq_decide.2 ⟨fun h4 => ⟨h, ⟨h1, h2⟩, h3, h4⟩, fun h4 => h4.2.2.2⟩]
        · exact neg (df h3) (no fun x => h3 x.2.2.1)
      · exact neg (df h2) (no fun x => h2 x.2.1.2)
    · exact neg (df h1) (no fun x => h1 x.2.1.1)
  · exact neg (by simp [h]) (no fun x => h x.1)
theorem sg_prod (x y : Int) : (wr .i64 (sgI x * sgI y) < 0) ↔ ((x < 0 ∧ 0 < y) ∨ (0 < x ∧ y < 0)) := by
  unfold sgI
  (repeat' split) <;> (rw [wr64 (by omega) (by omega)]; omega)
open Classical in
theorem meet_ok {a b c d : IP} (ha : insP a) (hb : insP b) (hc : insP c) (hd : insP d) : callT CG [.v .bool] 71 [.val t0 a, .val t0 b, .val t0 c, .val t0 d] = some (decide (MeetI a b c d)) := by
  refine callT_of (garmentref11_meet_st a b c d (r := [.val .bool (decide (MeetI a b c d))]) ?_) rfl
  refine bnd (between_ok ha hb hc) ?_
  by_cases h1 : BetI a b c
  · refine pos (dt h1) ?_; rw [decide_eq_true (show MeetI a b c d from Or.inl h1)]
  refine neg (df h1) (bnd (between_ok ha hb hd) ?_)
  by_cases h2 : BetI a b d
  · refine pos (dt h2) ?_; rw [decide_eq_true (show MeetI a b c d from Or.inr (Or.inl h2))]
  refine neg (df h2) (bnd (between_ok hc hd ha) ?_)
  by_cases h3 : BetI c d a
  · refine pos (dt h3) ?_; rw [decide_eq_true (show MeetI a b c d from Or.inr (Or.inr (Or.inl h3)))]
  refine neg (df h3) (bnd (between_ok hc hd hb) ?_)
  by_cases h4 : BetI c d b
  · refine pos (dt h4) ?_; rw [decide_eq_true (show MeetI a b c d from Or.inr (Or.inr (Or.inr (Or.inl h4))))]
  refine neg (df h4) (bnd (cross_ok ha hb hc) (bnd (sign_ok _) (bnd (cross_ok ha hb hd) (bnd (sign_ok _) ?_))))
  by_cases h5 : DivI a b c d
  · refine pos (dt ((sg_prod _ _).2 h5)) (bnd (cross_ok hc hd ha) (bnd (sign_ok _) (bnd (cross_ok hc hd hb) (bnd (sign_ok _) ?_))))
    rw [show decide (wr .i64 (sgI (crI c d a) * sgI (crI c d b)) < 0) = decide (MeetI a b c d) from decide_eq_decide.2 (by rw [sg_prod]; unfold MeetI; simp only [h1, h2, h3, h4, h5, false_or, true_and]; exact Iff.rfl)]
  · refine neg (df (fun h => h5 ((sg_prod _ _).1 h))) ?_
    rw [decide_eq_false (show ¬ MeetI a b c d from by unfold MeetI; simp [h1, h2, h3, h4, h5])]
theorem within11_ok (s : IP) : callT CG [.v .bool] 68 [.val t0 s, .val tI (1048576 : Int)] = some (decide (insI s.1 ∧ insI s.2)) := by
  refine callT_of (garmentref11_Within_st s 1048576 (r := [.val .bool (decide (insI s.1 ∧ insI s.2))]) ?_) rfl
  rw [wr64 (by omega) (by omega)]
  unfold insI
  simp only [decide_eq_true_eq]
  (repeat' split) <;> (simp only [Option.some.injEq, List.cons.injEq, and_true]; congr 1; first | (rw [decide_eq_decide]; omega) | (symm; rw [decide_eq_false_iff_not]; omega))
theorem wrap_k {P : List IP} {k i : Nat} (hk : k < P.length) (hi : i + 2 ≤ k) : (((k + 1) % P.length : Nat) : Int) ≠ (i : Int) ↔ ¬ (i = 0 ∧ k = P.length - 1) := by
  by_cases h : k + 1 = P.length
  · rw [h, Nat.mod_self]; omega
  · rw [Nat.mod_eq_of_lt (by omega)]; omega
open Classical in
theorem rsimple_lp2 {P : List IP} (hl : P.length < 4611686018427387904) (hb : InsI P) {i : Nat} (hi : i < P.length)
    (hn : garmentref11_simple_lp1 CG P P (P.length : Int) ((i + 1 : Nat) : Int) = some [.val .bool (decide (RowsI P (i + 1)))]) : ∀ (m k : Nat), k + m = P.length → i + 2 ≤ k →
    garmentref11_simple_lp2 CG P P (P.length : Int) (i : Int) (k : Int) (nth P i) (nth P (i + 1)) = some [.val .bool (decide (Beyond P i k ∧ RowsI P (i + 1)))]
  | 0, k, h, hik => by
    refine garmentref11_simple_lp2_st _ _ _ _ _ _ _ ?_
    refine neg (ige (by omega)) ?_
    rw [wrS (by omega), hn, show decide (Beyond P i k ∧ RowsI P (i + 1)) = decide (RowsI P (i + 1)) from decide_eq_decide.2 ⟨fun h => h.2, fun h' => ⟨fun k' h1 h2 => by omega, h'⟩⟩]
  | m + 1, k, h, hik => by
    have hk : k < P.length := by omega
    have hP : P ≠ [] := by rintro rfl; cases hi
    have hm := Nat.mod_lt (k + 1) (show 0 < P.length by omega)
    have ih := rsimple_lp2 hl hb hi hn m (k + 1) (by omega) (by omega)
    refine garmentref11_simple_lp2_st _ _ _ _ _ _ _ ?_
    rw [wrS (by omega), tmod_nat]
    simp only [Int.toNat_natCast]
    rw [show P.getD ((k + 1) % P.length) (0, 0) = nth P (k + 1) from rfl, nth_getD hk]
    refine pos (ilt hk) (pos (by omega) ?_)
    by_cases hs : i = 0 ∧ k = P.length - 1
    · refine neg (by simp only [bne_iff_ne]; rw [wrap_k hk hik]; simp [hs]) ?_
      rw [ih, show decide (Beyond P i k ∧ RowsI P (i + 1)) = decide (Beyond P i (k + 1) ∧ RowsI P (i + 1)) from decide_eq_decide.2 (by rw [beyondS hk]; simp [hs])]
    · refine pos (by simp only [bne_iff_ne]; rw [wrap_k hk hik]; exact hs) (pos (ixn hk) (pos (by omega) (pos (ixn hm) (bnd (meet_ok (insP_of hb hP _) (insP_of hb hP _) (insP_of hb hP _) (insP_of hb hP _)) ?_))))
      by_cases hm : MeetI (nth P i) (nth P (i + 1)) (nth P k) (nth P (k + 1))
      · refine pos (dt hm) ?_
        rw [decide_eq_false (fun h' => (beyondS hk).1 h'.1 |>.1 hs hm)]
      · refine neg (df hm) ?_
        rw [ih]
        rw [show decide (Beyond P i k ∧ RowsI P (i + 1)) = decide (Beyond P i (k + 1) ∧ RowsI P (i + 1)) from decide_eq_decide.2 (by rw [beyondS hk]; simp [hm])]
open Classical in
theorem rsimple_lp1 {P : List IP} (hl : P.length < 4611686018427387904) (hb : InsI P) : ∀ (m i : Nat), i + m = P.length →
    garmentref11_simple_lp1 CG P P (P.length : Int) (i : Int) = some [.val .bool (decide (RowsI P i))]
  | 0, i, h => by
    refine garmentref11_simple_lp1_st _ _ _ _ ?_
    refine neg (ige (by omega)) ?_
    rw [decide_eq_true (show RowsI P i from fun j h1 h2 => by omega)]
  | m + 1, i, h => by
    have hi : i < P.length := by omega
    have hP : P ≠ [] := by rintro rfl; cases hi
    have hm := Nat.mod_lt (i + 1) (show 0 < P.length by omega)
    have hm2 := Nat.mod_lt (i + 2) (show 0 < P.length by omega)
    refine garmentref11_simple_lp1_st _ _ _ _ ?_
    rw [wrS (by omega), wrS2 (by omega), tmod_nat, tmod_nat]
    simp only [Int.toNat_natCast]
    rw [show P.getD ((i + 1) % P.length) (0, 0) = nth P (i + 1) from rfl, show P.getD ((i + 2) % P.length) (0, 0) = nth P (i + 2) from rfl, nth_getD hi]
    refine pos (ilt hi) (pos (ixn hi) (pos (by omega) (pos (ixn hm) (pos (by omega) (pos (ixn hm2) ?_)))))
    by_cases h1 : nth P i = nth P (i + 1)
    · refine pos ((eq_pair _ _).2 h1) ?_
      rw [decide_eq_false (show ¬ RowsI P i from fun h' => ((rowsS hi).1 h').1.1 h1)]
    refine neg (fun h' => h1 ((eq_pair _ _).1 h')) ?_
    refine bnd (between_ok (insP_of hb hP _) (insP_of hb hP _) (insP_of hb hP _)) ?_
    by_cases h2 : BetI (nth P i) (nth P (i + 1)) (nth P (i + 2))
    · refine pos (dt h2) ?_
      rw [decide_eq_false (show ¬ RowsI P i from fun h' => ((rowsS hi).1 h').1.2.1 h2)]
    refine neg (df h2) (bnd (between_ok (insP_of hb hP _) (insP_of hb hP _) (insP_of hb hP _)) ?_)
    by_cases h3 : BetI (nth P (i + 1)) (nth P (i + 2)) (nth P i)
    · refine pos (dt h3) ?_
      rw [decide_eq_false (show ¬ RowsI P i from fun h' => ((rowsS hi).1 h').1.2.2.1 h3)]
    refine neg (df h3) ?_
    have e : decide (RowsI P i) = decide (Beyond P i (i + 2) ∧ RowsI P (i + 1)) := decide_eq_decide.2 (by
      rw [rowsS hi]
      exact ⟨fun h' => ⟨h'.1.2.2.2, h'.2⟩, fun h' => ⟨⟨h1, h2, h3, h'.1⟩, h'.2⟩⟩)
    rw [e]
    have hn := rsimple_lp1 hl hb m (i + 1) (by omega)
    by_cases hk : i + 2 ≤ P.length
    · exact rsimple_lp2 hl hb hi hn (P.length - (i + 2)) (i + 2) (by omega) (by omega)
    · refine garmentref11_simple_lp2_st _ _ _ _ _ _ _ ?_
      refine neg (ige (by omega)) ?_
      rw [wrS (by omega), hn, show decide (Beyond P i (i + 2) ∧ RowsI P (i + 1)) = decide (RowsI P (i + 1)) from decide_eq_decide.2 ⟨fun h => h.2, fun h' => ⟨fun k' h1 h2 => by omega, h'⟩⟩]
open Classical in
theorem rsimple_ok {P : List IP} (hl : P.length < 8796093022208) (hb : InsI P) : callT CG [.v .bool] 69 [.val (.sl t0) P] = some (decide (SimpI P)) := by
  refine callT_of (garmentref11_simple_st P (r := [.val .bool (decide (SimpI P))]) ?_) rfl
  have := rsimple_lp1 (by omega) hb P.length 0 (by omega)
  rw [show decide (SimpI P) = decide (RowsI P 0) from decide_eq_decide.2 (rows0 P).symm]
  exact this
open Classical in
theorem rcheck_lp {P : List IP} (h3 : 3 ≤ P.length) (h40 : P.length ≤ 40) : ∀ (m i : Nat), i + m = P.length → (∀ s ∈ P.take i, insP s) →
    garmentref11_Check_lp1 CG P P (i : Int) = some [.val tI (chk P)]
  | 0, i, h, hb => by
    have hb : InsI P := by rw [List.take_of_length_le (by omega)] at hb; exact hb
    have hc : chk P = if SimpI P then 0 else 11 := by
      unfold chk
      rw [if_neg (by omega), if_neg (by omega), if_neg (fun h' => h' hb)]
    refine garmentref11_Check_lp1_st _ _ _ ?_
    refine neg (ige (by omega)) (bnd (rsimple_ok (by omega) hb) ?_)
    by_cases hs : SimpI P
    · refine neg (by simp [hs]) ?_; rw [hc, if_pos hs]
    · refine pos (by simp [hs]) ?_; rw [hc, if_neg hs]
  | m + 1, i, h, hb => by
    have hi : i < P.length := by omega
    have bad : ¬ insP P[i] → chk P = 3 := fun hn => by
      unfold chk
      rw [if_neg (by omega), if_neg (by omega), if_pos (fun h' => hn (h' _ (List.getElem_mem hi)))]
    refine garmentref11_Check_lp1_st _ _ _ ?_
    rw [Int.toNat_natCast, getD_eq hi]
    refine pos (ilt hi) (pos (ixn hi) (bnd (within11_ok _) ?_))
    by_cases h1 : insI P[i].1 ∧ insI P[i].2
    · refine neg (by simp [h1]) ?_
      rw [wrS (by omega)]
      refine rcheck_lp h3 h40 m (i + 1) (by omega) ?_
      intro s hs
      rw [List.take_succ_eq_append_getElem hi, List.mem_append] at hs
      rcases hs with hs | hs
      · exact hb s hs
      · rw [List.mem_singleton.1 hs]; exact h1
    · refine pos (by rw [decide_eq_false h1]; rfl) ?_
      rw [bad h1]
theorem rcheck_cg (P : List IP) : CG 67 [.val (.sl t0) P] = some [.val tI (chk P)] := by
  refine garmentref11_Check_st P ?_
  by_cases h1 : 40 < P.length
  · refine pos (dt (by omega)) ?_; unfold chk; rw [if_pos h1]
  refine neg (df (by omega)) ?_
  by_cases h2 : P.length < 3
  · refine pos (dt (by omega)) ?_; unfold chk; rw [if_neg h1, if_pos h2]
  refine neg (df (by omega)) ?_
  exact rcheck_lp (by omega) (by omega) P.length 0 (by omega) (by simp)
end Pl
end
section
/- Lists: turned round, least elements, rotations. -/
namespace Pl
open Go Geo Pm
/-- the first i elements of both ends exchanged -/
def swp {α : Type} (l : List α) (z : α) (i : Nat) : List α := (List.range l.length).map fun k => if k < i ∨ l.length - 1 - k < i then l.getD (l.length - 1 - k) z else l.getD k z
theorem swp_len {α : Type} (l : List α) (z : α) (i : Nat) : (swp l z i).length = l.length := by simp [swp]
theorem swp_get {α : Type} (l : List α) (z : α) (i k : Nat) (h : k < l.length) : (swp l z i).getD k z = if k < i ∨ l.length - 1 - k < i then l.getD (l.length - 1 - k) z else l.getD k z := range_getD (fun k => if k < i ∨ l.length - 1 - k < i then l.getD (l.length - 1 - k) z else l.getD k z) h z
theorem swp0 {α : Type} (l : List α) (z : α) : swp l z 0 = l := by
  apply List.ext_getElem
  · simp [swp]
  · intro k h1 h2; simp [swp, List.getD, h2]
theorem swp_end {α : Type} (l : List α) (z : α) (i : Nat) (h : l.length ≤ 2 * i + 1) : swp l z i = l.reverse := by
  apply List.ext_getElem
  · simp [swp]
  · intro k h1 h2
    simp only [List.length_reverse] at h2
    simp only [swp, List.getElem_map, List.getElem_range, List.getElem_reverse]
    by_cases hk : k < i ∨ l.length - 1 - k < i
    · rw [if_pos hk, getD_eq (by omega)]
    · rw [if_neg hk, getD_eq h2]
      congr 1
      omega
theorem swp_step {α : Type} (l : List α) (z : α) (i : Nat) (h : 2 * i + 1 < l.length) :
    ((swp l z i).set i ((swp l z i).getD (l.length - 1 - i) z)).set (l.length - 1 - i) ((swp l z i).getD i z) = swp l z (i + 1) := by
  rw [swp_get l z i i (by omega), swp_get l z i (l.length - 1 - i) (by omega), if_neg (by omega), if_neg (by omega)]
  apply List.ext_getElem
  · simp [swp]
  · intro k h1 h2
    simp only [List.length_set, swp_len] at h1
    rw [List.getElem_set, List.getElem_set]
    have e : ∀ j, (swp l z j)[k]'(by rw [swp_len]; exact h1) = if k < j ∨ l.length - 1 - k < j then l.getD (l.length - 1 - k) z else l.getD k z := fun j => by simp [swp]
    rw [e i, e (i + 1)]
    by_cases h3 : l.length - 1 - i = k
    · rw [if_pos h3, if_pos (by omega)]; congr 1; omega
    · rw [if_neg h3]
      by_cases h4 : i = k
      · rw [if_pos h4, if_pos (by omega), h4]
      · rw [if_neg h4]
        by_cases h5 : k < i ∨ l.length - 1 - k < i
        · rw [if_pos h5, if_pos (by omega)]
        · rw [if_neg h5, if_neg (by omega)]
/-- by X and then by Y -/
def lexP (a b : IP) : Prop := a.1 < b.1 ∨ (a.1 = b.1 ∧ a.2 < b.2)
instance (a b : IP) : Decidable (lexP a b) := inferInstanceAs (Decidable (_ ∨ _))
end Pl
end
section
/- What the program's polygon functions compute: box, area, position, convexity, moves. -/
namespace Pl
open Go Geo Pm
theorem chk_in {P : List IP} (h : chk P = 0) : 3 ≤ P.length ∧ P.length ≤ 40 ∧ InsI P ∧ P ≠ [] ∧ SimpI P := by
  obtain ⟨h1, h2, h3, h4⟩ := chk_ok.1 h
  exact ⟨h2, h1, h3, by rintro rfl; simp at h2, h4⟩
end Pl
end
section
/- Plane geometry over the rationals: crossing numbers of closed paths. -/
namespace Geo
abbrev Pt := Rat × Rat
/-- twice the signed area of a triangle -/
def cr (a b c : Pt) : Rat := (b.1 - a.1) * (c.2 - a.2) - (b.2 - a.2) * (c.1 - a.1)
/-- how an edge crosses the ray to the right -/
def cc (u v q : Pt) : Int :=
  if u.2 ≤ q.2 ∧ q.2 < v.2 ∧ 0 < cr u v q then 1
  else if v.2 ≤ q.2 ∧ q.2 < u.2 ∧ cr u v q < 0 then -1 else 0
theorem div_nn {a p : Rat} (hp : 0 < p) (h : 0 ≤ a) : 0 ≤ a / p := by
  have e : a / p * p = a := by grind
  rcases Rat.le_total (a := 0) (b := a / p) with h1 | h1
  · exact h1
  · have := Rat.mul_nonneg (show 0 ≤ - (a / p) by grind) (show 0 ≤ p by grind)
    have h0 : a = 0 := by grind
    subst h0
    have : (0 : Rat) / p = 0 := by grind
    rw [this]; exact Rat.le_refl
theorem div_le1 {a p : Rat} (hp : 0 < p) (h : a ≤ p) : a / p ≤ 1 := by
  have h1 := div_nn hp (show 0 ≤ p - a by grind)
  have e : (p - a) / p = 1 - a / p := by grind
  grind
theorem div_pos {a p : Rat} (hp : 0 < p) (h : 0 < a) : 0 < a / p := by
  have h1 := div_nn hp (show 0 ≤ a by grind)
  have e : a / p * p = a := by grind
  have : a / p ≠ 0 := by intro h0; rw [h0] at e; grind
  grind
def On (u v x : Pt) : Prop := ∃ t : Rat, 0 ≤ t ∧ t ≤ 1 ∧ x = (u.1 + t * (v.1 - u.1), u.2 + t * (v.2 - u.2))
theorem cr_self1 (u v : Pt) : cr u v u = 0 := by unfold cr; grind
theorem cr_self2 (u v : Pt) : cr u v v = 0 := by unfold cr; grind
theorem On_left (u v : Pt) : On u v u := ⟨0, by grind, by grind, by grind⟩
theorem On_symm {u v x : Pt} (h : On u v x) : On v u x := by
  obtain ⟨t, h0, h1, rfl⟩ := h
  exact ⟨1 - t, by grind, by grind, by grind⟩
/-- an affine function along a segment -/
theorem cr_On {u v x : Pt} (p q : Pt) {t : Rat} (h : x = (u.1 + t * (v.1 - u.1), u.2 + t * (v.2 - u.2))) :
    cr p q x = (1 - t) * cr p q u + t * cr p q v := by
  subst h; unfold cr; grind
end Geo
end
section
/- Paths, closed paths, simple polygons. -/
namespace Geo
def es : List Pt → List (Pt × Pt)
  | a :: b :: l => (a, b) :: es (b :: l)
  | _ => []
def pw : List Pt → Pt → Int
  | a :: b :: l, q => cc a b q + pw (b :: l) q
  | _, _ => 0
/-- the sides of a closed path -/
def ces : List Pt → List (Pt × Pt)
  | [] => []
  | a :: l => es (a :: (l ++ [a]))
/-- the winding number of a closed path -/
def cw : List Pt → Pt → Int
  | [], _ => 0
  | a :: l, q => pw (a :: (l ++ [a])) q
@[simp] theorem es_one (a : Pt) : es [a] = [] := rfl
@[simp] theorem es_nil : es [] = [] := rfl
@[simp] theorem es_two (a b : Pt) (l : List Pt) : es (a :: b :: l) = (a, b) :: es (b :: l) := rfl
@[simp] theorem pw_one (a q : Pt) : pw [a] q = 0 := rfl
@[simp] theorem pw_nil (q : Pt) : pw [] q = 0 := rfl
@[simp] theorem pw_two (a b q : Pt) (l : List Pt) : pw (a :: b :: l) q = cc a b q + pw (b :: l) q := rfl
theorem es_split (A : List Pt) (x : Pt) (B : List Pt) : es (A ++ x :: B) = es (A ++ [x]) ++ es (x :: B) := by
  induction A with
  | nil => simp
  | cons a A ih =>
    cases A with
    | nil => simp
    | cons b A => simp only [List.cons_append, es_two] at ih ⊢; rw [ih]
theorem pw_split (A : List Pt) (x : Pt) (B : List Pt) (q : Pt) : pw (A ++ x :: B) q = pw (A ++ [x]) q + pw (x :: B) q := by
  induction A with
  | nil => simp
  | cons a A ih =>
    cases A with
    | nil => simp
    | cons b A => simp only [List.cons_append, pw_two] at ih ⊢; rw [ih]; omega
theorem es_snoc (A : List Pt) (x y : Pt) : es (A ++ [x] ++ [y]) = es (A ++ [x]) ++ [(x, y)] := by
  have := es_split A x [y]
  simp only [List.append_assoc, List.cons_append, List.nil_append]
  rw [this]; simp
theorem es_mem {L : List Pt} {e : Pt × Pt} (h : e ∈ es L) : e.1 ∈ L ∧ e.2 ∈ L := by
  induction L with
  | nil => simp at h
  | cons a L ih =>
    cases L with
    | nil => simp at h
    | cons b L =>
      simp only [es_two, List.mem_cons] at h
      rcases h with rfl | h
      · simp
      · have := ih h
        exact ⟨List.mem_cons_of_mem _ this.1, List.mem_cons_of_mem _ this.2⟩
theorem cw_rot (A B : List Pt) (q : Pt) : cw (A ++ B) q = cw (B ++ A) q := by
  cases A with
  | nil => simp
  | cons a A =>
    cases B with
    | nil => simp
    | cons b B =>
      simp only [List.cons_append, cw, List.append_assoc]
      have h1 := pw_split (a :: A) b (B ++ [a]) q
      have h2 := pw_split (b :: B) a (A ++ [b]) q
      simp only [List.cons_append, List.append_assoc] at h1 h2
      rw [h1, h2]; omega
theorem ces_rot (A B : List Pt) (e : Pt × Pt) : e ∈ ces (A ++ B) ↔ e ∈ ces (B ++ A) := by
  cases A with
  | nil => simp
  | cons a A =>
    cases B with
    | nil => simp
    | cons b B =>
      simp only [List.cons_append, ces, List.append_assoc]
      have h1 := es_split (a :: A) b (B ++ [a])
      have h2 := es_split (b :: B) a (A ++ [b])
      simp only [List.cons_append, List.append_assoc] at h1 h2
      rw [h1, h2]; simp only [List.mem_append]; exact Or.comm
theorem ces_out {P : List Pt} {w : Pt} (h : w ∈ P) : ∃ w', (w, w') ∈ ces P := by
  obtain ⟨A, B, rfl⟩ := List.append_of_mem h
  cases B with
  | nil =>
    cases A with
    | nil => exact ⟨w, by simp [ces]⟩
    | cons a A =>
      refine ⟨a, ?_⟩
      rw [ces_rot]; simp [ces]
  | cons b B =>
    refine ⟨b, ?_⟩
    rw [ces_rot]; simp [ces]
/-! moving a point -/
/-! simple polygons -/
structure Simp (P : List Pt) : Prop where
  len : 3 ≤ P.length
  nodup : P.Nodup
  meet : ∀ e ∈ ces P, ∀ f ∈ ces P, e ≠ f → ∀ x, On e.1 e.2 x → On f.1 f.2 x → (x = e.1 ∨ x = e.2) ∧ (x = f.1 ∨ x = f.2)
theorem Simp.rot {A B : List Pt} (h : Simp (A ++ B)) : Simp (B ++ A) where
  len := by have := h.len; simp at *; omega
  nodup := by have := h.nodup; rw [List.nodup_append] at *; exact ⟨this.2.1, this.1, fun a ha b hb e => this.2.2 b hb a ha e.symm⟩
  meet := by
    intro e he f hf
    rw [ces_rot] at he hf
    exact h.meet e he f hf
theorem Simp.vert {P : List Pt} (h : Simp P) {e : Pt × Pt} (he : e ∈ ces P) {w : Pt} (hw : w ∈ P) (ho : On e.1 e.2 w) : w = e.1 ∨ w = e.2 := by
  obtain ⟨w', hf⟩ := ces_out hw
  by_cases h1 : e = (w, w')
  · left; rw [h1]
  · exact (h.meet e he (w, w') hf h1 w ho (On_left _ _)).1
def Rot (P Q : List Pt) : Prop := ∃ A B, P = A ++ B ∧ Q = B ++ A
theorem Rot.symm {P Q : List Pt} (h : Rot P Q) : Rot Q P := by
  obtain ⟨A, B, rfl, rfl⟩ := h
  exact ⟨B, A, rfl, rfl⟩
theorem Rot.cw {P Q : List Pt} (h : Rot P Q) (q : Pt) : cw P q = Geo.cw Q q := by
  obtain ⟨A, B, rfl, rfl⟩ := h
  exact cw_rot A B q
theorem Rot.ces {P Q : List Pt} (h : Rot P Q) (e : Pt × Pt) : e ∈ ces P ↔ e ∈ Geo.ces Q := by
  obtain ⟨A, B, rfl, rfl⟩ := h
  exact ces_rot A B e
theorem Rot.simp {P Q : List Pt} (h : Rot P Q) (hs : Simp P) : Simp Q := by
  obtain ⟨A, B, rfl, rfl⟩ := h
  exact hs.rot
theorem Rot.length {P Q : List Pt} (h : Rot P Q) : P.length = Q.length := by
  obtain ⟨A, B, rfl, rfl⟩ := h
  simp; omega
theorem Rot.nodup {P Q : List Pt} (h : Rot P Q) (hn : P.Nodup) : Q.Nodup := by
  obtain ⟨A, B, rfl, rfl⟩ := h
  exact (List.perm_append_comm).nodup_iff.1 hn
theorem es_cut {L : List Pt} {u v : Pt} (h : (u, v) ∈ es L) : ∃ A B, L = A ++ u :: v :: B := by
  induction L with
  | nil => simp at h
  | cons a L ih =>
    cases L with
    | nil => simp at h
    | cons b L =>
      simp only [es_two, List.mem_cons, Prod.mk.injEq] at h
      rcases h with ⟨rfl, rfl⟩ | h
      · exact ⟨[], L, rfl⟩
      · obtain ⟨A, B, e⟩ := ih h
        exact ⟨a :: A, B, by rw [e]; rfl⟩
/-- two points that see one another -/
def Diag (P : List Pt) (m z : Pt) : Prop :=
  ∀ e ∈ ces P, ∀ x, On e.1 e.2 x → On m z x → (x = e.1 ∨ x = e.2) ∧ (x = m ∨ x = z)
theorem Diag.symm {P : List Pt} {m z : Pt} (h : Diag P m z) : Diag P z m :=
  fun e he x hx hy => ⟨(h e he x hx (On_symm hy)).1, (h e he x hx (On_symm hy)).2.symm⟩
theorem Simp.sub {P Q : List Pt} {m z : Pt} (h : Simp P) (d : Diag P m z) (hl : 3 ≤ Q.length) (hn : Q.Nodup)
    (hs : ∀ e ∈ ces Q, e ∈ ces P ∨ e = (m, z)) : Simp Q where
  len := hl
  nodup := hn
  meet := by
    intro e he f hf hne x hx hy
    rcases hs e he with h1 | rfl <;> rcases hs f hf with h2 | rfl
    · exact h.meet e h1 f h2 hne x hx hy
    · exact d e h1 x hx hy
    · exact (d f h2 x hy hx).symm
    · exact absurd rfl hne
end Geo
end
section
/- Triangles in affine coordinates. -/
namespace Geo
/-- the affine coordinate that is 0 at a and v, and 1 at b -/
def bc (a v b t : Pt) : Rat := cr a v t / cr a v b
theorem bc_mul {a v b : Pt} (h : cr a v b ≠ 0) (t : Pt) : bc a v b t * cr a v b = cr a v t := by unfold bc; grind
theorem cr_rot2 (a v b : Pt) : cr v b a = cr a v b := by unfold cr; grind
theorem bc_a (a v b : Pt) : bc a v b a = 0 := by unfold bc; rw [cr_self1]; grind
theorem bc_v (a v b : Pt) : bc a v b v = 0 := by unfold bc; rw [cr_self2]; grind
theorem bc_b {a v b : Pt} (h : cr a v b ≠ 0) : bc a v b b = 1 := by unfold bc; grind
theorem mul_cancel {x y d : Rat} (h : d ≠ 0) (e : x * d = y * d) : x = y := by grind
theorem bc_sum {a v b : Pt} (h : cr a v b ≠ 0) (t : Pt) : bc v b a t + bc b a v t + bc a v b t = 1 := by
  have h1 := bc_mul h t
  have h2 := bc_mul (a := v) (v := b) (b := a) (by rw [cr_rot2]; exact h) t
  have h3 := bc_mul (a := b) (v := a) (b := v) (by rw [← cr_rot2]; exact h) t
  rw [cr_rot2] at h2
  rw [← cr_rot2] at h3
  apply mul_cancel h
  have : cr v b t + cr b a t + cr a v t = cr a v b := by unfold cr; grind
  grind
theorem bc_rec {a v b : Pt} (h : cr a v b ≠ 0) (t : Pt) :
    t = (bc v b a t * a.1 + bc b a v t * v.1 + bc a v b t * b.1, bc v b a t * a.2 + bc b a v t * v.2 + bc a v b t * b.2) := by
  have h1 := bc_mul h t
  have h2 := bc_mul (a := v) (v := b) (b := a) (by rw [cr_rot2]; exact h) t
  have h3 := bc_mul (a := b) (v := a) (b := v) (by rw [← cr_rot2]; exact h) t
  rw [cr_rot2] at h2
  rw [← cr_rot2] at h3
  obtain ⟨t1, t2⟩ := t
  apply Prod.ext
  · apply mul_cancel h
    have : cr v b (t1, t2) * a.1 + cr b a (t1, t2) * v.1 + cr a v (t1, t2) * b.1 = t1 * cr a v b := by unfold cr; grind
    simp only at *
    grind
  · apply mul_cancel h
    have : cr v b (t1, t2) * a.2 + cr b a (t1, t2) * v.2 + cr a v (t1, t2) * b.2 = t2 * cr a v b := by unfold cr; grind
    simp only at *
    grind
theorem bc_aff (a v b : Pt) {u w x : Pt} {s : Rat} (h : x = (u.1 + s * (w.1 - u.1), u.2 + s * (w.2 - u.2))) :
    bc a v b x = (1 - s) * bc a v b u + s * bc a v b w := by
  unfold bc
  rw [cr_On a v h]
  grind
/-- in the closed triangle -/
def InT (a v b t : Pt) : Prop := 0 ≤ bc v b a t ∧ 0 ≤ bc b a v t ∧ 0 ≤ bc a v b t
theorem On_sub {u w x y : Pt} (h : On u w x) (h2 : On x w y) : On u w y := by
  obtain ⟨s, s0, s1, rfl⟩ := h
  obtain ⟨t, t0, t1, rfl⟩ := h2
  have p1 := Rat.mul_nonneg t0 (show 0 ≤ 1 - s by grind)
  have p2 := Rat.mul_nonneg (show 0 ≤ 1 - t by grind) (show 0 ≤ 1 - s by grind)
  refine ⟨s + t * (1 - s), by grind, by grind, ?_⟩
  apply Prod.ext <;> simp only <;> grind
theorem On_sub' {u w x y : Pt} (h : On u w x) (h2 : On x u y) : On u w y :=
  On_symm (On_sub (On_symm h) h2)
/-- a point of a side -/
theorem On_side {a v b : Pt} (h : cr a v b ≠ 0) {t : Pt} (h0 : bc a v b t = 0) (h1 : 0 ≤ bc v b a t) (h2 : 0 ≤ bc b a v t) : On a v t := by
  have s := bc_sum h t
  have r := bc_rec h t
  refine ⟨bc b a v t, h2, by grind, ?_⟩
  have e : bc v b a t = 1 - bc b a v t := by grind
  rw [h0, e] at r
  rw [r]
  apply Prod.ext <;> simp only <;> grind
theorem exit {a v b : Pt} (_h : cr a v b ≠ 0) {y u : Pt} (ya : 0 < bc v b a y) (ym : 0 ≤ bc b a v y) (yb : 0 < bc a v b y)
    (um : 0 < bc b a v u) (hu : ¬ InT a v b u) :
    ∃ x, On y u x ∧ 0 < bc b a v x ∧ ((bc v b a x = 0 ∧ 0 ≤ bc a v b x) ∨ (bc a v b x = 0 ∧ 0 ≤ bc v b a x)) := by
  have aff : ∀ s : Rat, ∃ x : Pt, x = (y.1 + s * (u.1 - y.1), y.2 + s * (u.2 - y.2)) := fun s => ⟨_, rfl⟩
  -- leave by the side where bc a v b = 0
  have out : ∀ α β : Rat, ∀ A B : Rat, 0 < α → 0 < β → B < 0 → 0 ≤ α * (-B) + β * A →
      ∃ s : Rat, 0 < s ∧ s ≤ 1 ∧ (1 - s) * β + s * B = 0 ∧ 0 ≤ (1 - s) * α + s * A := by
    intro α β A B hα hβ hB hAB
    have hd : 0 < β - B := by grind
    refine ⟨β / (β - B), div_pos hd hβ, div_le1 hd (by grind), by grind, ?_⟩
    have := div_nn hd hAB
    have e : (1 - β / (β - B)) * α + β / (β - B) * A = (α * (-B) + β * A) / (β - B) := by grind
    rw [e]; exact this
  have fin : ∀ s : Rat, 0 < s → s ≤ 1 → 0 < (1 - s) * bc b a v y + s * bc b a v u := by
    intro s s0 s1
    have h1 := Rat.mul_nonneg (show 0 ≤ 1 - s by grind) ym
    have h2 := Rat.mul_pos s0 um
    grind
  by_cases hb : bc a v b u < 0
  · by_cases hab : 0 ≤ bc v b a y * (- bc a v b u) + bc a v b y * bc v b a u
    · obtain ⟨s, s0, s1, e1, e2⟩ := out _ _ _ _ ya yb hb hab
      obtain ⟨x, hx⟩ := aff s
      have h1 := bc_aff a v b hx
      have h2 := bc_aff b a v hx
      have h3 := bc_aff v b a hx
      have := fin s s0 s1
      exact ⟨x, ⟨s, by grind, s1, hx⟩, by grind, Or.inr ⟨by grind, by grind⟩⟩
    · have ha : bc v b a u < 0 := by
        have := Rat.mul_pos ya (show 0 < - bc a v b u by grind)
        by_cases h0 : bc v b a u < 0
        · exact h0
        · have := Rat.mul_nonneg (show 0 ≤ bc a v b y by grind) (show 0 ≤ bc v b a u by grind)
          grind
      obtain ⟨s, s0, s1, e1, e2⟩ := out _ _ (bc a v b u) _ yb ya ha (by grind)
      obtain ⟨x, hx⟩ := aff s
      have h1 := bc_aff a v b hx
      have h2 := bc_aff b a v hx
      have h3 := bc_aff v b a hx
      have := fin s s0 s1
      exact ⟨x, ⟨s, by grind, s1, hx⟩, by grind, Or.inl ⟨by grind, by grind⟩⟩
  · have ha : bc v b a u < 0 := by
      by_cases h0 : bc v b a u < 0
      · exact h0
      · exact absurd ⟨by grind, by grind, by grind⟩ hu
    have := Rat.mul_pos yb (show 0 < - bc v b a u by grind)
    have := Rat.mul_nonneg (show 0 ≤ bc v b a y by grind) (show 0 ≤ bc a v b u by grind)
    obtain ⟨s, s0, s1, e1, e2⟩ := out _ _ (bc a v b u) _ yb ya ha (by grind)
    obtain ⟨x, hx⟩ := aff s
    have h1 := bc_aff a v b hx
    have h2 := bc_aff b a v hx
    have h3 := bc_aff v b a hx
    have := fin s s0 s1
    exact ⟨x, ⟨s, by grind, s1, hx⟩, by grind, Or.inl ⟨by grind, by grind⟩⟩
/-- an edge that comes into a triangle at v, but leaves neither by the sides at v nor ends above a level, stays below the level -/
theorem cap {a v b : Pt} (h : cr a v b ≠ 0) {u w : Pt} {κ : Rat} (k0 : 0 ≤ κ)
    (h1 : ∀ x, On u w x → On a v x → x = a) (h2 : ∀ x, On u w x → On v b x → x = b)
    (hu : InT a v b u → bc b a v u ≤ κ) {y : Pt} (hy : On u w y)
    (ya : 0 < bc v b a y) (ym : 0 ≤ bc b a v y) (yb : 0 < bc a v b y) : bc b a v u ≤ κ := by
  rcases Rat.le_total (a := bc b a v u) (b := κ) with hle | hle
  · exact hle
  · by_cases he : bc b a v u = κ
    · grind
    · have hlt : κ < bc b a v u := by grind
      have hn : ¬ InT a v b u := fun hi => by have := hu hi; grind
      have ha0 := bc_v b a v
      have hb0 := bc_a b a v
      obtain ⟨x, hx, hm, h3 | h3⟩ := exit h ya ym yb (by grind) hn
      · have hr : cr v b a ≠ 0 := by rw [cr_rot2]; exact h
        have := h2 x (On_sub' hy hx) (On_side hr h3.1 (by grind) (by grind))
        rw [this] at hm; grind
      · have := h1 x (On_sub' hy hx) (On_side h h3.1 (by grind) (by grind))
        rw [this] at hm; grind
theorem between_le {A B s κ : Rat} (h0 : 0 ≤ s) (h1 : s ≤ 1) (ha : A ≤ κ) (hb : B ≤ κ) : (1 - s) * A + s * B ≤ κ := by
  have p1 := Rat.mul_nonneg h0 (show 0 ≤ κ - B by grind)
  have p2 := Rat.mul_nonneg (show 0 ≤ 1 - s by grind) (show 0 ≤ κ - A by grind)
  grind
theorem cap2 {a v b : Pt} (h : cr a v b ≠ 0) {u w : Pt} {κ : Rat} (k0 : 0 ≤ κ)
    (h1 : ∀ x, On u w x → On a v x → x = a) (h2 : ∀ x, On u w x → On v b x → x = b)
    (hu : InT a v b u → bc b a v u ≤ κ) (hw : InT a v b w → bc b a v w ≤ κ) {y : Pt} (hy : On u w y)
    (ya : 0 < bc v b a y) (ym : 0 ≤ bc b a v y) (yb : 0 < bc a v b y) : bc b a v y ≤ κ := by
  have c1 := cap h k0 h1 h2 hu hy ya ym yb
  have c2 := cap h k0 (fun x a b => h1 x (On_symm a) b) (fun x a b => h2 x (On_symm a) b) hw (On_symm hy) ya ym yb
  obtain ⟨s, s0, s1, e⟩ := hy
  rw [bc_aff b a v e]
  exact between_le s0 s1 c1 c2
end Geo
end
section
/- Ears and diagonals. -/
namespace Geo
/-! a polygon seen from one of its vertices -/
theorem ces_cons {v a b : Pt} {L M N : List Pt} (hb : L = b :: M) (ha : L = N ++ [a]) (e : Pt × Pt) :
    e ∈ ces (v :: L) ↔ e = (v, b) ∨ e ∈ es L ∨ e = (a, v) := by
  have h1 : ces (v :: L) = (v, b) :: es (L ++ [v]) := by
    rw [hb]; rfl
  rw [h1, ha, es_snoc, ← ha]
  simp [or_comm, or_assoc, or_left_comm]
structure Seen (v : Pt) (L : List Pt) (a b : Pt) : Prop where
  simp : Simp (v :: L)
  head : ∃ M, L = b :: M
  last : ∃ N, L = N ++ [a]
  turn : cr a v b ≠ 0
theorem Seen.side {v a b : Pt} {L : List Pt} (s : Seen v L a b) {e : Pt × Pt} (he : e ∈ es L) :
    (∀ x, On e.1 e.2 x → On a v x → x = a) ∧ (∀ x, On e.1 e.2 x → On v b x → x = b) := by
  obtain ⟨M, hb⟩ := s.head
  obtain ⟨N, ha⟩ := s.last
  have hn := s.simp.nodup
  rw [List.nodup_cons] at hn
  have hm := es_mem he
  have c := ces_cons (v := v) hb ha
  have k := s.simp.meet e ((c e).2 (Or.inr (Or.inl he)))
  constructor
  · intro x h1 h2
    have := k (a, v) ((c _).2 (Or.inr (Or.inr rfl))) (by rintro rfl; exact hn.1 hm.2) x h1 h2
    rcases this with ⟨r, rfl | rfl⟩
    · rfl
    · rcases r with rfl | rfl
      · exact absurd hm.1 hn.1
      · exact absurd hm.2 hn.1
  · intro x h1 h2
    have := k (v, b) ((c _).2 (Or.inl rfl)) (by rintro rfl; exact hn.1 hm.1) x h1 h2
    rcases this with ⟨r, rfl | rfl⟩
    · rcases r with rfl | rfl
      · exact absurd hm.1 hn.1
      · exact absurd hm.2 hn.1
    · rfl
def Empty (v : Pt) (L : List Pt) (a b : Pt) : Prop := ∀ w ∈ L, w ≠ a → w ≠ b → ¬ InT a v b w
theorem Seen.cap {v a b : Pt} {L : List Pt} (s : Seen v L a b) {κ : Rat} (k0 : 0 ≤ κ)
    (hk : ∀ w ∈ L, w ≠ a → w ≠ b → InT a v b w → bc b a v w ≤ κ) {e : Pt × Pt} (he : e ∈ es L) {y : Pt} (hy : On e.1 e.2 y)
    (ya : 0 < bc v b a y) (ym : 0 ≤ bc b a v y) (yb : 0 < bc a v b y) :
    bc b a v e.1 ≤ κ ∧ bc b a v e.2 ≤ κ ∧ bc b a v y ≤ κ := by
  have h := s.side he
  have hm := es_mem he
  have k : ∀ w ∈ L, InT a v b w → bc b a v w ≤ κ := by
    intro w hw hi
    by_cases h1 : w = a
    · rw [h1, bc_v b a v]; exact k0
    · by_cases h2 : w = b
      · rw [h2, bc_a b a v]; exact k0
      · exact hk w hw h1 h2 hi
  exact ⟨Geo.cap s.turn k0 h.1 h.2 (k _ hm.1) hy ya ym yb,
    Geo.cap s.turn k0 (fun x a b => h.1 x (On_symm a) b) (fun x a b => h.2 x (On_symm a) b) (k _ hm.2) (On_symm hy) ya ym yb,
    Geo.cap2 s.turn k0 h.1 h.2 (k _ hm.1) (k _ hm.2) hy ya ym yb⟩
theorem eq_of_bc {a v b x y : Pt} (h : cr a v b ≠ 0) (h1 : bc v b a x = bc v b a y) (h2 : bc b a v x = bc b a v y) : x = y := by
  have s1 := bc_sum h x
  have s2 := bc_sum h y
  rw [bc_rec h x, bc_rec h y, h1, h2, show bc a v b x = bc a v b y by grind]
end Geo
end
section
/- An empty ear is clear; diagonals exist. -/
namespace Geo
theorem Seen.nadj {v a b : Pt} {L : List Pt} (s : Seen v L a b) (hl : 3 ≤ L.length) :
    (a, b) ∉ es L ∧ (b, a) ∉ es L := by
  obtain ⟨M, hb⟩ := s.head
  obtain ⟨N, ha⟩ := s.last
  have hn := s.simp.nodup
  rw [List.nodup_cons] at hn
  have hn := hn.2
  constructor
  · intro h
    obtain ⟨A, B, e⟩ := es_cut h
    rw [e] at hn hb
    cases A with
    | nil => simp at hb hn; grind
    | cons x A => simp at hb hn; grind
  · intro h
    obtain ⟨A, B, e⟩ := es_cut h
    rw [e] at hn hb
    cases A with
    | cons x A => simp at hb hn; grind
    | nil =>
      rcases List.eq_nil_or_concat B with rfl | ⟨B', x, rfl⟩
      · rw [e] at hl; simp at hl
      · rw [e] at ha
        have e1 : ([b, a] ++ B') ++ [x] = N ++ [a] := by simpa using ha
        have := (List.append_inj' e1 rfl).2
        simp at this hn
        grind
theorem On_line {a v b u w : Pt} (h : cr a v b ≠ 0) (u0 : bc b a v u = 0) (w0 : bc b a v w = 0) {p : Pt} (p0 : bc b a v p = 0)
    (h1 : bc v b a u ≤ bc v b a p) (h2 : bc v b a p ≤ bc v b a w) (h3 : bc v b a u < bc v b a w) : On u w p := by
  have hd : 0 < bc v b a w - bc v b a u := by grind
  obtain ⟨x, hx⟩ : ∃ x : Pt, x = (u.1 + ((bc v b a p - bc v b a u) / (bc v b a w - bc v b a u)) * (w.1 - u.1), u.2 + ((bc v b a p - bc v b a u) / (bc v b a w - bc v b a u)) * (w.2 - u.2)) := ⟨_, rfl⟩
  have e1 := bc_aff v b a hx
  have e2 := bc_aff b a v hx
  have : p = x := eq_of_bc h (by grind) (by grind)
  exact ⟨(bc v b a p - bc v b a u) / (bc v b a w - bc v b a u), div_nn hd (by grind), div_le1 hd (by grind), this.trans hx⟩
/-- no side of the polygon comes into an empty ear -/
theorem Seen.clear {v a b : Pt} {L : List Pt} (s : Seen v L a b) (em : Empty v L a b) (hl : 3 ≤ L.length)
    {e : Pt × Pt} (he : e ∈ ces (v :: L)) {y : Pt} (hy : On e.1 e.2 y)
    (ya : 0 < bc v b a y) (ym : 0 ≤ bc b a v y) (yb : 0 < bc a v b y) : False := by
  obtain ⟨M, hb⟩ := s.head
  obtain ⟨N, ha⟩ := s.last
  have hce := ces_cons (v := v) hb ha
  have hr : cr v b a ≠ 0 := by rw [cr_rot2]; exact s.turn
  have a1 := bc_b hr
  have a2 := bc_v b a v
  have a3 := bc_a a v b
  have b1 := bc_v v b a
  have b2 := bc_a b a v
  have b3 := bc_b s.turn
  have v1 := bc_a v b a
  have v3 := bc_v a v b
  rcases (hce e).1 he with rfl | h | rfl
  · obtain ⟨t, t0, t1, hx⟩ := hy
    have := bc_aff v b a hx
    grind
  · obtain ⟨c1, c2, c3⟩ := s.cap (κ := 0) (by grind) (fun w hw h1 h2 h3 => absurd h3 (em w hw h1 h2)) h hy ya ym yb
    have hm := es_mem h
    have y0 : bc b a v y = 0 := by grind
    obtain ⟨t, t0, t1, hx⟩ := id hy
    have ea := bc_aff v b a hx
    have eb := bc_aff a v b hx
    have ec := bc_aff b a v hx
    have su := bc_sum s.turn e.1
    have sw := bc_sum s.turn e.2
    have sy := bc_sum s.turn y
    -- an end within the open chord is impossible
    have noend : ∀ w ∈ L, bc b a v w = 0 → 0 < bc v b a w → 0 < bc a v b w → False := by
      intro w hw w0 wa wb
      refine em w hw ?_ ?_ ⟨by grind, by grind, by grind⟩
      · rintro rfl; grind
      · rintro rfl; grind
    have hu0 : ∀ (t : Rat), 0 ≤ t → t ≤ 1 → (1 - t) * bc b a v e.1 + t * bc b a v e.2 = 0 →
        t = 0 ∨ t = 1 ∨ (bc b a v e.1 = 0 ∧ bc b a v e.2 = 0) := by
      intro t t0 t1 h0
      by_cases h1 : t = 0
      · exact Or.inl h1
      by_cases h2 : t = 1
      · exact Or.inr (Or.inl h2)
      right; right
      have p1 := Rat.mul_nonneg t0 (show 0 ≤ - bc b a v e.2 by grind)
      have p2 := Rat.mul_nonneg (show 0 ≤ 1 - t by grind) (show 0 ≤ - bc b a v e.1 by grind)
      have z1 : t * bc b a v e.2 = 0 := by grind
      have z2 : (1 - t) * bc b a v e.1 = 0 := by grind
      constructor <;> grind
    rcases hu0 t t0 t1 (by grind) with h0 | h1 | ⟨u0, w0⟩
    · exact noend e.1 hm.1 (by grind) (by grind) (by grind)
    · exact noend e.2 hm.2 (by grind) (by grind) (by grind)
    · have ku : bc v b a e.1 ≤ 0 ∨ 1 ≤ bc v b a e.1 := by
        by_cases h1 : 0 < bc v b a e.1
        · by_cases h2 : 0 < bc a v b e.1
          · exact absurd h2 (fun h2 => noend e.1 hm.1 u0 h1 h2)
          · grind
        · grind
      have kw : bc v b a e.2 ≤ 0 ∨ 1 ≤ bc v b a e.2 := by
        by_cases h1 : 0 < bc v b a e.2
        · by_cases h2 : 0 < bc a v b e.2
          · exact absurd h2 (fun h2 => noend e.2 hm.2 w0 h1 h2)
          · grind
        · grind
      have hab : On e.1 e.2 a ∧ On e.1 e.2 b := by
        rcases ku with ku | ku <;> rcases kw with kw | kw
        · have := between_le t0 t1 ku kw; grind
        · exact ⟨On_line s.turn u0 w0 a2 (by grind) (by grind) (by grind), On_line s.turn u0 w0 b2 (by grind) (by grind) (by grind)⟩
        · exact ⟨On_symm (On_line s.turn w0 u0 a2 (by grind) (by grind) (by grind)), On_symm (On_line s.turn w0 u0 b2 (by grind) (by grind) (by grind))⟩
        · have := between_le (A := - bc v b a e.1) (B := - bc v b a e.2) (κ := -1) t0 t1 (by grind) (by grind); grind
      have ha' : a ∈ v :: L := by rw [ha]; simp
      have hb' : b ∈ v :: L := by rw [hb]; simp
      have r1 := s.simp.vert he ha' hab.1
      have r2 := s.simp.vert he hb' hab.2
      have nab : a ≠ b := by rintro rfl; grind
      have nad := s.nadj hl
      obtain ⟨e1, e2⟩ := e
      simp only at r1 r2
      rcases r1 with rfl | rfl <;> rcases r2 with rfl | rfl
      · exact nab rfl
      · exact nad.1 h
      · exact nad.2 h
      · exact nab rfl
  · obtain ⟨t, t0, t1, hx⟩ := hy
    have := bc_aff a v b hx
    grind
end Geo
end
section
/- Every simple polygon has ears. -/
namespace Geo
def Off (P : List Pt) (q : Pt) : Prop := ∀ e ∈ ces P, ¬ On e.1 e.2 q
/-! the least vertex -/
end Geo
end
section
/- The ear theorem. -/
namespace Geo
/-- an ear that is good: what is left is outside of it -/
structure Good (P : List Pt) (v : Pt) (L : List Pt) (a b : Pt) : Prop where
  rot : Rot P (v :: L)
  seen : Seen v L a b
  empty : Empty v L a b
  out : cw L v = 0
end Geo
end
section
/- A simple polygon winds about each point off it 0 times or s times, s being 1 or -1. -/
namespace Geo
theorem Rot.off {P Q : List Pt} (h : Rot P Q) {q : Pt} (o : Off P q) : Off Q q := fun e he => o e ((h.ces e).2 he)
/-- off the polygon and in the ear's triangle: strictly within its two sides -/
theorem Good.within {P L : List Pt} {v a b : Pt} (g : Good P v L a b) {q : Pt} (o : Off P q) (h : InT a v b q) : 0 < bc v b a q ∧ 0 ≤ bc b a v q ∧ 0 < bc a v b q := by
  obtain ⟨M, hb⟩ := g.seen.head
  obtain ⟨N, ha⟩ := g.seen.last
  have hr1 : cr v b a ≠ 0 := by rw [cr_rot2]; exact g.seen.turn
  have o2 := g.rot.off o
  obtain ⟨h1, h2, h3⟩ := h
  refine ⟨?_, h2, ?_⟩
  · rcases (by grind : bc v b a q = 0 ∨ 0 < bc v b a q) with e | e
    · exact absurd (On_side hr1 e h2 h3) (o2 (v, b) ((ces_cons hb ha _).2 (Or.inl rfl)))
    · exact e
  · rcases (by grind : bc a v b q = 0 ∨ 0 < bc a v b q) with e | e
    · exact absurd (On_side g.seen.turn e h1 h2) (o2 (a, v) ((ces_cons hb ha _).2 (Or.inr (Or.inr rfl))))
    · exact e
end Geo
end
section
/- Chapter 43: what the program's and the reference's functions compute. -/
namespace Pl
open Go Geo Pm
abbrev Need := Int × Int
abbrev Rest := Int × (Int × (Int × Int))
def okN (n : Need) : Prop := 1 ≤ n.2 ∧ n.2 ≤ 1048576
def usb (r : Rest) : Prop := 0 ≤ r.2.2.1 ∧ r.2.2.1 ≤ r.2.2.2 ∧ r.2.2.2 ≤ 1048576
def suit (n : Need) (r : Rest) : Prop := okN n ∧ usb r ∧ r.2.1 = n.1 ∧ n.2 ≤ r.2.2.2 - r.2.2.1
instance (n : Need) : Decidable (okN n) := inferInstanceAs (Decidable (_ ∧ _))
instance (r : Rest) : Decidable (usb r) := inferInstanceAs (Decidable (_ ∧ _))
instance (n : Need) (r : Rest) : Decidable (suit n r) := inferInstanceAs (Decidable (_ ∧ _))
theorem cloneI_ok {L : List Int} (hl : L.length < 17592186044416) : callT CG [.o tI] 62 [.val (.sl tI) L] = some L := by
  refine callT_of (slices_Clone_int_int_st L (r := [.own tI L]) ?_) rfl
  exact pos (by simpa using hl) rfl
end Pl
end
section
/- Chapter 43: needs, and what is replaced. -/
namespace Pl
open Go Geo Pm
theorem nz {x : Int} (h : x = 0) : ¬ (x != 0) = true := by simp [h]
theorem nn0 {x : Int} (h : x ≠ 0) : (x != 0) = true := by simp [h]
abbrev Polys := List (List IP)
end Pl
end
section
/- Chapter 41: checks, ways. -/
namespace Pl
open Go Geo Pm
def dis (a b : IP) : Int := max (a.1 - b.1) (b.1 - a.1) + max (a.2 - b.2) (b.2 - a.2)
theorem dis_nn (a b : IP) : 0 ≤ dis a b := by unfold dis; omega
theorem dis_symm (a b : IP) : dis a b = dis b a := by unfold dis; omega
theorem dis_bound {a b : IP} (ha : insP a) (hb : insP b) : dis a b ≤ 4194304 := by
  obtain ⟨a1, a2⟩ := ha; obtain ⟨b1, b2⟩ := hb
  unfold insI at *; unfold dis; omega
theorem dis_w {a b : IP} (ha : insP a) (hb : insP b) : wr .i64 ((if wr .i64 (b.1 - a.1) > wr .i64 (a.1 - b.1) then wr .i64 (b.1 - a.1) else wr .i64 (a.1 - b.1)) + (if wr .i64 (b.2 - a.2) > wr .i64 (a.2 - b.2) then wr .i64 (b.2 - a.2) else wr .i64 (a.2 - b.2))) = dis a b := by
  obtain ⟨a1, a2⟩ := ha; obtain ⟨b1, b2⟩ := hb
  unfold insI at *
  rw [wr64 (x := b.1 - a.1) (by omega) (by omega), wr64 (x := a.1 - b.1) (by omega) (by omega), wr64 (x := b.2 - a.2) (by omega) (by omega), wr64 (x := a.2 - b.2) (by omega) (by omega), max_if, max_if, wr64 (by omega) (by omega)]
  rfl
theorem dist_ok {a b : IP} (ha : insP a) (hb : insP b) : callT CG [.v tI] 113 [.val t0 a, .val t0 b] = some (dis a b) := callT_of (path_distance_st a b (by rw [dis_w ha hb])) rfl
noncomputable def chkL : Polys → Int
  | [] => 0
  | p :: ps => if chk p ≠ 0 then chk p else chkL ps
noncomputable def chkP (polys : Polys) : Int := if 60 < polys.length then 5 else chkL polys
theorem chkL_zero : ∀ {ps : Polys}, chkL ps = 0 ↔ ∀ p ∈ ps, chk p = 0
  | [] => by simp [chkL]
  | p :: ps => by
    unfold chkL
    rw [List.forall_mem_cons]
    by_cases h : chk p = 0
    · rw [if_neg (by simp [h]), chkL_zero]; simp [h]
    · rw [if_pos h]; simp [h]
theorem pcheck_lp {polys : Polys} (hl : polys.length < 4611686018427387904) : ∀ (m i : Nat), i + m = polys.length →
    path_check_lp1 CG polys polys (polys.length : Int) (i : Int) = some [.val tI (chkL (polys.drop i))]
  | 0, i, h => by
    refine path_check_lp1_st _ _ _ _ (neg (ige (by omega)) ?_)
    rw [List.drop_of_length_le (by omega)]; rfl
  | m + 1, i, h => by
    have hi : i < polys.length := by omega
    refine path_check_lp1_st _ _ _ _ ?_
    rw [Int.toNat_natCast, getD_eq hi, wrS (by omega), drop_cons hi]
    refine pos (ilt hi) (pos (ixn hi) (bnd (check_ok _) ?_))
    by_cases hc : chk polys[i] = 0
    · rw [show chkL (polys[i] :: polys.drop (i + 1)) = chkL (polys.drop (i + 1)) from if_neg (by simp [hc])]
      exact neg (nz hc) (pcheck_lp hl m (i + 1) (by omega))
    · rw [show chkL (polys[i] :: polys.drop (i + 1)) = chk polys[i] from if_pos hc]
      exact pos (nn0 hc) rfl
theorem pcheck_ok (polys : Polys) : callT CG [.v tI] 114 [.val (.sl (.sl t0)) polys] = some (chkP polys) := by
  refine callT_of (path_check_st polys (r := [.val tI (chkP polys)]) ?_) rfl
  unfold chkP
  by_cases h : 60 < polys.length
  · rw [if_pos h]; exact pos (dt (by omega)) rfl
  · rw [if_neg h]; exact neg (df (by omega)) (pcheck_lp (by omega) polys.length 0 (by omega))
/-- the first i are in range and different -/
def okTo (order : List Int) (n i : Nat) : Prop := ∀ j, j < i → (0 ≤ order.getD j 0 ∧ order.getD j 0 < (n : Int)) ∧ order.getD j 0 ∉ order.take j
def Whole (order : List Int) (n : Nat) : Prop := order.length = n ∧ okTo order n n
def seen (order : List Int) (n i : Nat) : List Bool := (List.range n).map fun j => decide (((j : Nat) : Int) ∈ order.take i)
theorem seen_get {order : List Int} {n i k : Nat} (hk : k < n) : (seen order n i).getD k false = decide (((k : Nat) : Int) ∈ order.take i) := range_getD (fun j => decide (((j : Nat) : Int) ∈ order.take i)) hk false
theorem seen_len (order : List Int) (n i : Nat) : (seen order n i).length = n := by simp [seen]
theorem seen0 (order : List Int) (n : Nat) : seen order n 0 = List.replicate n false := by
  apply List.ext_getElem <;> simp [seen]
theorem seen_set {order : List Int} {n i : Nat} (hi : i < order.length) {k : Nat} (hk : order.getD i 0 = (k : Int)) : (seen order n i).set k true = seen order n (i + 1) := by
  apply List.ext_getElem
  · simp [seen]
  · intro j h1 h2
    simp only [List.length_set, seen_len] at h1
    rw [List.getElem_set]
    simp only [seen, List.getElem_map, List.getElem_range]
    rw [List.take_succ_eq_append_getElem hi, ← getD_eq hi 0, hk]
    by_cases e : k = j
    · rw [if_pos e, e]; simp
    · rw [if_neg e]
      rw [decide_eq_decide, List.mem_append]
      constructor
      · exact Or.inl
      · rintro (h | h)
        · exact h
        · simp at h; omega
theorem okTo_succ {order : List Int} {n i : Nat} : okTo order n (i + 1) ↔ okTo order n i ∧ (0 ≤ order.getD i 0 ∧ order.getD i 0 < (n : Int)) ∧ order.getD i 0 ∉ order.take i :=
  ⟨fun h => ⟨fun j hj => h j (by omega), h i (by omega)⟩, fun h j hj => by
    by_cases e : j = i
    · rw [e]; exact h.2
    · exact h.1 j (by omega)⟩
open Classical in
noncomputable def validE (polys : Polys) (order : List Int) : Int := if chkP polys ≠ 0 then chkP polys else if Whole order polys.length then 0 else 1
theorem validE_w {polys : Polys} {order : List Int} (h : chkP polys = 0) [Decidable (Whole order polys.length)] : validE polys order = if Whole order polys.length then 0 else 1 := by
  unfold validE
  rw [if_neg (by simp [h])]
  split <;> simp_all
theorem validE_e {polys : Polys} {order : List Int} (h : chkP polys ≠ 0) : validE polys order = chkP polys := if_pos h
open Classical in
theorem valid_lp {polys : Polys} {order : List Int} (hl : polys.length ≤ 60) (ho : order.length = polys.length) : ∀ (m i : Nat), i + m = order.length → okTo order polys.length i →
    path_valid_lp1 CG polys order polys order (order.length : Int) (i : Int) (seen order polys.length i) = some [.val tI (if Whole order polys.length then 0 else 1)]
  | 0, i, h, hk => by
    obtain rfl : i = order.length := by omega
    refine path_valid_lp1_st _ _ _ _ _ _ _ (neg (ige (by omega)) ?_)
    rw [if_pos ⟨ho, by rw [← ho]; rw [ho] at hk ⊢; exact hk⟩]
  | m + 1, i, h, hk => by
    have hi : i < order.length := by omega
    refine path_valid_lp1_st _ _ _ _ _ _ _ ?_
    rw [Int.toNat_natCast, wrS (by omega), seen_len]
    refine pos (ilt hi) (pos (ixn hi) ?_)
    have bad : ¬ ((0 ≤ order.getD i 0 ∧ order.getD i 0 < (polys.length : Int)) ∧ order.getD i 0 ∉ order.take i) → some [D.val tI (1 : Int)] = some [D.val tI (if Whole order polys.length then 0 else 1)] := fun hb => by
      rw [if_neg (fun hw : Whole order polys.length => hb (hw.2 i (by omega)))]
    by_cases h1 : order.getD i 0 < 0
    · exact pos (dt h1) (bad fun h => by omega)
    refine neg (df h1) ?_
    by_cases h2 : order.getD i 0 ≥ (polys.length : Int)
    · exact pos (dt h2) (bad fun h => by omega)
    refine neg (df h2) (pos (by omega) ?_)
    obtain ⟨k, hk'⟩ : ∃ k : Nat, order.getD i 0 = (k : Int) := ⟨(order.getD i 0).toNat, by omega⟩
    rw [hk'] at h1 h2 bad ⊢
    rw [Int.toNat_natCast, seen_get (by omega)]
    by_cases h3 : ((k : Nat) : Int) ∈ order.take i
    · exact pos (dt h3) (bad fun h => h.2 h3)
    · refine neg (df h3) (pos (by omega) ?_)
      rw [seen_set hi hk']
      exact valid_lp hl ho m (i + 1) (by omega) (okTo_succ.2 ⟨hk, by rw [hk']; exact ⟨by omega, h3⟩⟩)
open Classical in
theorem valid_ok (polys : Polys) (order : List Int) : callT CG [.v tI] 112 [.val (.sl (.sl t0)) polys, .val (.sl tI) order] = some (validE polys order) := by
  refine callT_of (path_valid_st polys order (r := [.val tI (validE polys order)]) ?_) rfl
  refine bnd (pcheck_ok polys) ?_
  by_cases h : chkP polys = 0
  · rw [validE_w h]
    refine neg (nz h) ?_
    have hl : polys.length ≤ 60 := by
      unfold chkP at h
      by_cases h6 : 60 < polys.length
      · rw [if_pos h6] at h; omega
      · omega
    by_cases ho : order.length = polys.length
    · refine neg (by simp [ho]) (pos (by omega) ?_)
      have := valid_lp hl ho order.length 0 (by omega) (fun j hj => by omega)
      rw [seen0] at this
      rw [Int.toNat_natCast]
      exact this
    · refine pos (by simp; omega) ?_
      rw [if_neg (fun hw : Whole order polys.length => ho hw.1)]
  · rw [validE_e h]
    exact pos (nn0 h) rfl
/-- where a polygon begins -/
def ptA (polys : Polys) (k : Int) : IP := (polys.getD k.toNat []).getD 0 (0, 0)
structure GoodP (polys : Polys) : Prop where
  len : polys.length ≤ 60
  chk : ∀ p ∈ polys, Geo.chk p = 0
theorem goodP {polys : Polys} (h : chkP polys = 0) : GoodP polys := by
  unfold chkP at h
  by_cases h6 : 60 < polys.length
  · rw [if_pos h6] at h; omega
  · rw [if_neg h6] at h; exact ⟨by omega, chkL_zero.1 h⟩
theorem GoodP.at {polys : Polys} (h : GoodP polys) {k : Int} (h0 : 0 ≤ k) (hk : k < (polys.length : Int)) : 0 < (polys.getD k.toNat []).length ∧ insP (ptA polys k) := by
  have hm : polys.getD k.toNat [] ∈ polys := getD_in (by omega) []
  obtain ⟨h3, _, hb, hP, _⟩ := chk_in (h.chk _ hm)
  refine ⟨by omega, ?_⟩
  unfold ptA
  exact hb _ (getD_in (by omega) (0, 0))
theorem insP0 : insP ((0, 0) : IP) := by unfold insP insI; simp
/-- the length of a way -/
def tr (polys : Polys) : IP → List Int → Int
  | _, [] => 0
  | s, k :: ks => dis s (ptA polys k) + tr polys (ptA polys k) ks
def InR (polys : Polys) (order : List Int) : Prop := ∀ k ∈ order, 0 ≤ k ∧ k < (polys.length : Int)
theorem whole_inR {polys : Polys} {order : List Int} (h : Whole order polys.length) : InR polys order := by
  intro k hk
  obtain ⟨j, hj, rfl⟩ := List.mem_iff_getElem.1 hk
  have := (h.2 j (by rw [← h.1]; exact hj)).1
  rwa [getD_eq hj] at this
theorem valid_zero {polys : Polys} {order : List Int} (h : validE polys order = 0) : GoodP polys ∧ Whole order polys.length := by
  unfold validE at h
  by_cases hc : chkP polys = 0
  · rw [if_neg (by simp [hc])] at h
    by_cases hw : Whole order polys.length
    · exact ⟨goodP hc, hw⟩
    · rw [if_neg hw] at h; omega
  · rw [if_pos hc] at h; exact absurd h hc
theorem travel_lp {polys : Polys} {order : List Int} (hg : GoodP polys) (hr : InR polys order) (hl : order.length ≤ 1000) : ∀ (m i : Nat), i + m = order.length → ∀ (acc : Int) (s : IP), insP s → 0 ≤ acc → acc ≤ i * 4194304 →
    path_Travel_lp1 CG polys order polys acc order (order.length : Int) (i : Int) s = some [.val tI (acc + tr polys s (order.drop i)), .val tI 0] := by
  intro m
  induction m with
  | zero =>
    intro i h acc s hs h0 h1
    refine path_Travel_lp1_st _ _ _ _ _ _ _ _ (neg (ige (by omega)) ?_)
    rw [List.drop_of_length_le (by omega)]
    simp [tr]
  | succ m ih =>
    intro i h acc s hs h0 h1
    have hi : i < order.length := by omega
    obtain ⟨k0, k1⟩ := hr _ (List.getElem_mem hi)
    obtain ⟨p1, p2⟩ := hg.at k0 k1
    have hd := dis_bound hs p2
    have hd0 := dis_nn s (ptA polys order[i])
    refine path_Travel_lp1_st _ _ _ _ _ _ _ _ ?_
    rw [wrS (by omega), Int.toNat_natCast, getD_eq hi, drop_cons hi]
    refine pos (ilt hi) (pos (ixn hi) (pos ⟨k0, k1⟩ (pos (by omega) (bnd (dist_ok hs p2) (pos ⟨k0, k1⟩ (pos (by omega) ?_))))))
    have ep : (polys.getD order[i].toNat []).getD (Int.toNat 0) (0, 0) = ptA polys order[i] := rfl
    rw [ep, wr64 (x := acc + dis s (ptA polys order[i])) (by omega) (by omega)]
    refine (ih (i + 1) (by omega) _ (ptA polys order[i]) p2 (by omega) (by omega)).trans ?_
    simp only [tr]
    rw [Int.add_assoc]
noncomputable def travE (polys : Polys) (order : List Int) : Int := if validE polys order = 0 then tr polys (0, 0) order else 0
theorem valid_len {polys : Polys} {order : List Int} (h : validE polys order = 0) : order.length ≤ 60 := by
  obtain ⟨h1, h2⟩ := valid_zero h
  have := h1.len
  have := h2.1
  omega
theorem travel_ok (polys : Polys) (order : List Int) : callT CG [.v tI, .v tI] 104 [.val (.sl (.sl t0)) polys, .val (.sl tI) order] = some (travE polys order, validE polys order) := by
  refine callT_of (path_Travel_st polys order (r := [.val tI (travE polys order), .val tI (validE polys order)]) ?_) rfl
  refine bnd (valid_ok polys order) ?_
  unfold travE
  by_cases h : validE polys order = 0
  · obtain ⟨h1, h2⟩ := valid_zero h
    rw [if_pos h, h]
    refine neg (by simp) ?_
    have := travel_lp h1 (whole_inR h2) (by have := valid_len h; omega) order.length 0 (by omega) 0 (0, 0) insP0 (by omega) (by omega)
    rw [Int.zero_add, List.drop_zero] at this
    exact this
  · rw [if_neg h]
    exact pos (nn0 h) rfl
theorem light_lp {polys : Polys} : ∀ (m i : Nat), i + m = 70 → ∃ r, garmentref41_Light_lp1 CG polys polys (i : Int) = some [.val .bool r] ∧ (r = true → polys.length ≤ 70)
  | 0, i, h => by
    by_cases hi : i < polys.length
    · exact ⟨decide ((polys.length : Int) ≤ 70), garmentref41_Light_lp1_st _ _ _ (pos (ilt hi) (neg (df (by omega)) rfl)), fun h => by have := of_decide_eq_true h; omega⟩
    · exact ⟨decide ((polys.length : Int) ≤ 70), garmentref41_Light_lp1_st _ _ _ (neg (ige (by omega)) rfl), fun h => by have := of_decide_eq_true h; omega⟩
  | m + 1, i, h => by
    by_cases hi : i < polys.length
    · by_cases hc : ((List.length (List.getD polys (Int.toNat (i : Int)) []) : Nat) : Int) > 60
      · exact ⟨false, garmentref41_Light_lp1_st _ _ _ (pos (ilt hi) (pos (dt (by omega)) (pos (ixn hi) (pos (dt hc) rfl)))), fun h => by cases h⟩
      · obtain ⟨r, hr, h2⟩ := light_lp m (i + 1) (by omega)
        exact ⟨r, garmentref41_Light_lp1_st _ _ _ (pos (ilt hi) (pos (dt (by omega)) (pos (ixn hi) (neg (df hc) (by rw [wrS (by omega)]; exact hr))))), h2⟩
    · exact ⟨decide ((polys.length : Int) ≤ 70), garmentref41_Light_lp1_st _ _ _ (neg (ige (by omega)) rfl), fun h => by have := of_decide_eq_true h; omega⟩
theorem light_ok (polys : Polys) : ∃ r, callT CG [.v .bool] 102 [.val (.sl (.sl t0)) polys] = some r ∧ (r = true → polys.length ≤ 70) := by
  obtain ⟨r, hr, h2⟩ := light_lp (polys := polys) 70 0 (by omega)
  exact ⟨r, callT_of (garmentref41_Light_st polys hr) rfl, h2⟩
theorem sameI21_lp {a b : List Int} (hab : a.length = b.length) (hl : a.length < 4611686018427387904) : ∀ (m i : Nat), i + m = a.length →
    garmentref21_SameInts_lp1 CG a b a b (i : Int) = some [.val .bool (decide (a.drop i = b.drop i))]
  | 0, i, h => by
    refine garmentref21_SameInts_lp1_st _ _ _ _ _ ?_
    refine neg (ige (by omega)) ?_
    rw [List.drop_of_length_le (by omega), List.drop_of_length_le (by omega), decide_eq_true rfl]
  | m + 1, i, h => by
    have hi : i < a.length := by omega
    have hj : i < b.length := by omega
    refine garmentref21_SameInts_lp1_st _ _ _ _ _ ?_
    rw [wrS (by omega), Int.toNat_natCast, getD_eq hi, getD_eq hj, drop_cons hi, drop_cons hj]
    refine pos (ilt hi) (pos (ixn hi) (pos (ixn hj) ?_))
    by_cases hc : a[i] = b[i]
    · refine neg (by simp [hc]) ?_
      rw [sameI21_lp hab hl m (i + 1) (by omega), show decide (a[i] :: a.drop (i + 1) = b[i] :: b.drop (i + 1)) = decide (a.drop (i + 1) = b.drop (i + 1)) from decide_eq_decide.2 (by rw [hc, List.cons.injEq]; exact ⟨fun h => h.2, fun h => ⟨rfl, h⟩⟩)]
    · refine pos (by simp [hc]) ?_
      rw [decide_eq_false (by rw [List.cons.injEq]; exact fun h' => hc h'.1)]
theorem sameI21_ok {a b : List Int} (hl : a.length < 4611686018427387904) : callT CG [.v .bool] 110 [.val (.sl tI) a, .val (.sl tI) b] = some (decide (a = b)) := by
  refine callT_of (garmentref21_SameInts_st a b (r := [.val .bool (decide (a = b))]) ?_) rfl
  by_cases h : a.length = b.length
  · refine neg (by simp [h]) ?_
    have := sameI21_lp h hl a.length 0 (by omega)
    simpa using this
  · refine pos (by simp; omega) ?_
    rw [decide_eq_false (fun e => h (by rw [e]))]
end Pl
end
section
/- Chapter 41: orders without repetition; the greedy order. -/
namespace Pl
open Go Geo Pm
/-- somebody is missing from what is shorter -/
theorem missing {n : Nat} {l : List Int} (h : l.length < n) : ∃ j, j < n ∧ ((j : Nat) : Int) ∉ l := by
  have key : ∀ (n : Nat) (l : List Int), l.length < n → ∃ j, j < n ∧ ((j : Nat) : Int) ∉ l := by
    intro n
    induction n with
    | zero => intro l h; omega
    | succ n ih =>
      intro l h
      by_cases hm : ((n : Nat) : Int) ∈ l
      · have hlt : (l.filter (fun k => decide (k ≠ ((n : Nat) : Int)))).length < l.length := by
          have := List.length_filter_le (fun k => decide (k ≠ ((n : Nat) : Int))) l
          by_cases he : (l.filter (fun k => decide (k ≠ ((n : Nat) : Int)))).length = l.length
          · have := List.length_filter_eq_length_iff.1 he _ hm
            simp at this
          · omega
        obtain ⟨j, h1, h2⟩ := ih (l.filter (fun k => decide (k ≠ ((n : Nat) : Int)))) (by omega)
        refine ⟨j, by omega, fun h3 => h2 (List.mem_filter.2 ⟨h3, by simp; omega⟩)⟩
      · exact ⟨n, by omega, hm⟩
  exact key n l h
theorem whole_nodup {order : List Int} {n : Nat} (h : Whole order n) : order.Nodup := by
  unfold List.Nodup
  rw [List.pairwise_iff_getElem]
  intro i j hi hj hij e
  have := (h.2 j (by rw [← h.1]; exact hj)).2
  rw [getD_eq hj, ← e] at this
  exact this (List.mem_take_iff_getElem.2 ⟨i, by omega, rfl⟩)
theorem whole_of {order : List Int} {n : Nat} (hl : order.length = n) (hn : order.Nodup) (hr : ∀ k ∈ order, 0 ≤ k ∧ k < (n : Int)) : Whole order n := by
  refine ⟨hl, fun j hj => ⟨hr _ (getD_in (by omega) 0), fun hm => ?_⟩⟩
  obtain ⟨i, hi, e⟩ := List.mem_take_iff_getElem.1 hm
  rw [getD_eq (by omega)] at e
  exact List.pairwise_iff_getElem.1 hn i j (by omega) (by omega) (by omega) e
/-- the nearest among the first i that are not yet cut, or -1 -/
def bestTo (polys : Polys) (out : List Int) (s : IP) : Nat → Int
  | 0 => -1
  | k + 1 => if ((k : Nat) : Int) ∈ out then bestTo polys out s k else if bestTo polys out s k < 0 then k else if dis s (ptA polys k) < dis s (ptA polys (bestTo polys out s k)) then k else bestTo polys out s k
theorem bestTo_spec (polys : Polys) (out : List Int) (s : IP) : ∀ i : Nat, (bestTo polys out s i = -1 ∧ ∀ k : Nat, k < i → ((k : Nat) : Int) ∈ out) ∨
    (0 ≤ bestTo polys out s i ∧ bestTo polys out s i < (i : Int) ∧ bestTo polys out s i ∉ out ∧ ∀ k : Nat, k < i → ((k : Nat) : Int) ∉ out → dis s (ptA polys (bestTo polys out s i)) < dis s (ptA polys k) ∨ (dis s (ptA polys (bestTo polys out s i)) = dis s (ptA polys k) ∧ bestTo polys out s i ≤ k))
  | 0 => Or.inl ⟨rfl, fun k h => by omega⟩
  | i + 1 => by
    have ih := bestTo_spec polys out s i
    by_cases hm : ((i : Nat) : Int) ∈ out
    · rw [show bestTo polys out s (i + 1) = bestTo polys out s i from if_pos hm]
      rcases ih with ⟨h1, h2⟩ | ⟨h1, h2, h3, h4⟩
      · refine Or.inl ⟨h1, fun k hk => ?_⟩
        by_cases e : k = i
        · rw [e]; exact hm
        · exact h2 k (by omega)
      · refine Or.inr ⟨h1, by omega, h3, fun k hk hn => ?_⟩
        by_cases e : k = i
        · rw [e] at hn; exact absurd hm hn
        · exact h4 k (by omega) hn
    · rcases ih with ⟨h1, h2⟩ | ⟨h1, h2, h3, h4⟩
      · have e : bestTo polys out s (i + 1) = ((i : Nat) : Int) := by
          show (if _ then _ else _) = _
          rw [if_neg hm, if_pos (by omega)]
        rw [e]
        refine Or.inr ⟨by omega, by omega, hm, fun k hk hn => ?_⟩
        by_cases e : k = i
        · rw [e]; exact Or.inr ⟨rfl, Int.le_refl _⟩
        · exact absurd (h2 k (by omega)) hn
      · by_cases hd : dis s (ptA polys i) < dis s (ptA polys (bestTo polys out s i))
        · have e : bestTo polys out s (i + 1) = ((i : Nat) : Int) := by
            show (if _ then _ else _) = _
            rw [if_neg hm, if_neg (by omega), if_pos hd]
          rw [e]
          refine Or.inr ⟨by omega, by omega, hm, fun k hk hn => ?_⟩
          by_cases e : k = i
          · rw [e]; exact Or.inr ⟨rfl, Int.le_refl _⟩
          · rcases h4 k (by omega) hn with h5 | h5
            · exact Or.inl (by omega)
            · exact Or.inl (by omega)
        · have e : bestTo polys out s (i + 1) = bestTo polys out s i := by
            show (if _ then _ else _) = _
            rw [if_neg hm, if_neg (by omega), if_neg hd]
          rw [e]
          refine Or.inr ⟨h1, by omega, h3, fun k hk hn => ?_⟩
          by_cases e : k = i
          · rw [e]
            by_cases h6 : dis s (ptA polys (bestTo polys out s i)) < dis s (ptA polys i)
            · exact Or.inl h6
            · exact Or.inr ⟨by omega, by omega⟩
          · exact h4 k (by omega) hn
/-- the greedy order -/
def gre (polys : Polys) : Nat → List Int → IP → List Int
  | 0, out, _ => out
  | m + 1, out, s => gre polys m (out ++ [bestTo polys out s polys.length]) (ptA polys (bestTo polys out s polys.length))
theorem best_ok {polys : Polys} {out : List Int} (s : IP) (h : out.length < polys.length) : 0 ≤ bestTo polys out s polys.length ∧ bestTo polys out s polys.length < (polys.length : Int) ∧ bestTo polys out s polys.length ∉ out := by
  rcases bestTo_spec polys out s polys.length with ⟨h1, h2⟩ | ⟨h1, h2, h3, _⟩
  · obtain ⟨j, hj, hn⟩ := missing h
    exact absurd (h2 j hj) hn
  · exact ⟨h1, h2, h3⟩
theorem indexI_lp {l : List Int} (hl : l.length < 4611686018427387904) (y : Int) : ∀ (m i : Nat), i + m = l.length → ∃ r, slices_Index_int_int_lp1 CG l y l y (l.length : Int) (i : Int) = some [.val tI r] ∧ (0 ≤ r ↔ y ∈ l.drop i)
  | 0, i, h => by
    refine ⟨-1, slices_Index_int_int_lp1_st _ _ _ _ _ _ (neg (ige (by omega)) rfl), ?_⟩
    rw [List.drop_of_length_le (by omega)]; simp
  | m + 1, i, h => by
    have hi : i < l.length := by omega
    rw [drop_cons hi]
    by_cases hc : y = l[i]
    · refine ⟨(i : Int), slices_Index_int_int_lp1_st _ _ _ _ _ _ ?_, ⟨fun _ => by rw [hc]; exact List.mem_cons_self, fun _ => Int.natCast_nonneg i⟩⟩
      rw [Int.toNat_natCast, getD_eq hi]
      exact pos (ilt hi) (pos (ixn hi) (pos (by simp [hc]) rfl))
    · obtain ⟨r, hr, h2⟩ := indexI_lp hl y m (i + 1) (by omega)
      refine ⟨r, slices_Index_int_int_lp1_st _ _ _ _ _ _ ?_, by rw [h2, List.mem_cons]; simp [hc]⟩
      rw [Int.toNat_natCast, getD_eq hi, wrS (by omega)]
      exact pos (ilt hi) (pos (ixn hi) (neg (by simp [hc]) hr))
theorem contains_ok {l : List Int} (hl : l.length < 4611686018427387904) (y : Int) : callT CG [.v .bool] 115 [.val (.sl tI) l, .val tI y] = some (decide (y ∈ l)) := by
  obtain ⟨r, hr, h2⟩ := indexI_lp hl y l.length 0 (by omega)
  refine callT_of (slices_Contains_int_int_st l y (r := [.val .bool (decide (y ∈ l))]) ?_) rfl
  refine bnd (callT_of (slices_Index_int_int_st l y hr) rfl) ?_
  rw [show decide (r ≥ (0 : Int)) = decide (y ∈ l) from decide_eq_decide.2 (by rw [ge_iff_le, h2, List.drop_zero])]
theorem greedy_lp2 {polys : Polys} (hg : GoodP polys) {out : List Int} {s : IP} (hs : insP s) {t : Nat} {res : R} (ho : out.length < polys.length)
    (hres : path_Greedy_lp1 CG polys polys (polys.length : Int) ((t + 1 : Nat) : Int) (ptA polys (bestTo polys out s polys.length)) (out ++ [bestTo polys out s polys.length]) = some res) (ht : t < 1000) : ∀ (m k : Nat), k + m = polys.length →
    path_Greedy_lp2 CG polys polys (bestTo polys out s k) (polys.length : Int) (t : Int) (polys.length : Int) (k : Int) s out = some res
  | 0, k, h => by
    obtain rfl : k = polys.length := by omega
    obtain ⟨b1, b2, b3⟩ := best_ok s ho
    obtain ⟨p1, p2⟩ := hg.at b1 b2
    have := hg.len
    refine path_Greedy_lp2_st _ _ _ _ _ _ _ _ _ (neg (ige (by omega)) (pos (by simp; omega) (pos ⟨b1, b2⟩ (pos (by omega) ?_))))
    rw [wrS (by omega)]
    exact hres
  | m + 1, k, h => by
    have hk : k < polys.length := by omega
    have := hg.len
    have ih := greedy_lp2 hg hs ho hres ht m (k + 1) (by omega)
    refine path_Greedy_lp2_st _ _ _ _ _ _ _ _ _ ?_
    rw [wrS (by omega), Int.toNat_natCast]
    refine pos (ilt hk) (bnd (contains_ok (by omega) _) ?_)
    by_cases hm : ((k : Nat) : Int) ∈ out
    · rw [show bestTo polys out s (k + 1) = bestTo polys out s k from if_pos hm] at ih
      exact pos (dt hm) ih
    refine neg (df hm) ?_
    by_cases hb : bestTo polys out s k < 0
    · rw [show bestTo polys out s (k + 1) = ((k : Nat) : Int) from (if_neg hm).trans (if_pos hb)] at ih
      exact pos (dt hb) ih
    · refine neg (df hb) ?_
      have hb2 : bestTo polys out s k < (k : Int) := by
        rcases bestTo_spec polys out s k with h1 | h1
        · omega
        · exact h1.2.1
      obtain ⟨p1, p2⟩ := hg.at (k := ((k : Nat) : Int)) (by omega) (by omega)
      obtain ⟨q1, q2⟩ := hg.at (k := bestTo polys out s k) (by omega) (by omega)
      rw [Int.toNat_natCast] at p1
      refine pos (ixn hk) (pos (by omega) (bnd (v := dis s (ptA polys ((k : Nat) : Int))) (dist_ok hs p2) (pos (by omega) (pos (by omega) (bnd (v := dis s (ptA polys (bestTo polys out s k))) (dist_ok hs q2) ?_)))))
      by_cases hd : dis s (ptA polys k) < dis s (ptA polys (bestTo polys out s k))
      · rw [show bestTo polys out s (k + 1) = ((k : Nat) : Int) from (if_neg hm).trans ((if_neg hb).trans (if_pos hd))] at ih
        exact pos (dt hd) ih
      · rw [show bestTo polys out s (k + 1) = bestTo polys out s k from (if_neg hm).trans ((if_neg hb).trans (if_neg hd))] at ih
        exact neg (df hd) ih
theorem greedy_lp1 {polys : Polys} (hg : GoodP polys) : ∀ (m : Nat) (out : List Int) (s : IP), out.length + m = polys.length → insP s →
    path_Greedy_lp1 CG polys polys (polys.length : Int) (out.length : Int) s out = some [.own tI (gre polys m out s), .val tI 0]
  | 0, out, s, h, hs => path_Greedy_lp1_st _ _ _ _ _ _ (neg (ige (by omega)) rfl)
  | m + 1, out, s, h, hs => by
    have := hg.len
    obtain ⟨b1, b2, b3⟩ := best_ok s (show out.length < polys.length by omega)
    refine path_Greedy_lp1_st _ _ _ _ _ _ (pos (ilt (by omega)) ?_)
    have ih := greedy_lp1 hg m (out ++ [bestTo polys out s polys.length]) (ptA polys (bestTo polys out s polys.length)) (by simp; omega) (hg.at b1 b2).2
    rw [List.length_append, List.length_singleton] at ih
    exact greedy_lp2 hg hs (by omega) ih (by omega) polys.length 0 (by omega)
noncomputable def greE (polys : Polys) : List Int := if chkP polys = 0 then gre polys polys.length [] (0, 0) else []
theorem greedy_ok (polys : Polys) : callT CG [.o tI, .v tI] 108 [.val (.sl (.sl t0)) polys] = some (greE polys, chkP polys) := by
  refine callT_of (path_Greedy_st polys (r := [.own tI (greE polys), .val tI (chkP polys)]) ?_) rfl
  refine bnd (pcheck_ok polys) ?_
  unfold greE
  by_cases h : chkP polys = 0
  · rw [if_pos h, h]
    exact neg (by simp) (greedy_lp1 (goodP h) polys.length [] (0, 0) (by simp) insP0)
  · rw [if_neg h]
    exact pos (nn0 h) rfl
theorem gre_app (polys : Polys) : ∀ (m : Nat) (out : List Int) (s : IP), ∃ l, gre polys m out s = out ++ l ∧ l.length = m
  | 0, out, s => ⟨[], by simp [gre], rfl⟩
  | m + 1, out, s => by
    obtain ⟨l, h1, h2⟩ := gre_app polys m (out ++ [bestTo polys out s polys.length]) (ptA polys (bestTo polys out s polys.length))
    exact ⟨bestTo polys out s polys.length :: l, by rw [gre, h1]; simp, by simp [h2]⟩
theorem gre_whole (polys : Polys) : ∀ (m : Nat) (out : List Int) (s : IP), out.length + m = polys.length → out.Nodup → InR polys out → (gre polys m out s).Nodup ∧ InR polys (gre polys m out s)
  | 0, out, s, _, h1, h2 => ⟨h1, h2⟩
  | m + 1, out, s, h, h1, h2 => by
    obtain ⟨b1, b2, b3⟩ := best_ok s (show out.length < polys.length by omega)
    refine gre_whole polys m _ _ (by simp; omega) ?_ fun k hk => ?_
    · rw [List.nodup_append]
      exact ⟨h1, List.nodup_cons.2 ⟨by simp, List.nodup_nil⟩, fun a ha b hb e => b3 (by rw [List.mem_singleton.1 hb] at e; rw [← e]; exact ha)⟩
    · rcases List.mem_append.1 hk with hk | hk
      · exact h2 k hk
      · rw [List.mem_singleton.1 hk]; exact ⟨b1, b2⟩
theorem greE_whole {polys : Polys} (h : chkP polys = 0) : Whole (greE polys) polys.length := by
  unfold greE
  rw [if_pos h]
  obtain ⟨l, h1, h2⟩ := gre_app polys polys.length [] (0, 0)
  obtain ⟨h3, h4⟩ := gre_whole polys polys.length [] (0, 0) (by simp) List.nodup_nil (fun k hk => by cases hk)
  exact whole_of (by rw [h1]; simpa using h2) h3 h4
end Pl
end
