/- Parts of the proof of TriangleMoves, joined: Cf0, Cf. -/
import Derived.Test.YtbfiafblabdoeaaTriangleMovesQ0
set_option linter.unusedVariables false
set_option linter.unusedSimpArgs false
section
/- The functions that the law reaches, in the plain form: written by a program of mine out of the translation. -/
namespace Pm
open Go
set_option maxRecDepth 20000
set_option linter.unusedVariables false
def cf_garmentlaw13_many : Fn := ⟨1, 6, [.t 2], [.v .bool], none,
 .seq (.reg false [
  ⟨some 2, none, .mov, [.bool false]⟩])
 (.seq (.reg false [
  ⟨some 3, none, .mov, [.t 0]⟩,
  ⟨some 4, none, .len, [.t 3]⟩,
  ⟨some 5, none, .bin .gtr tI, [.t 4, .int .i64 60]⟩,
  ⟨some 2, none, .mov, [.t 5]⟩])
 (.ret))⟩
def cf_garmentlaw13_alive : Fn := ⟨0, 68, [.t 0], [.v .bool], none,
 .seq (.reg false [
  ⟨some 0, none, .mov, [.bool false]⟩])
 (.seq (.reg false [
  ⟨some 7, none, .call 1000 (some 5) [.o t0] false, []⟩,
  ⟨some 8, none, .call 1004 (some 6) [.o (.sl t0), .v tI] false, [.t 7]⟩,
  ⟨some 6, none, .mov, [.t 8]⟩,
  ⟨some 9, none, .ext 0, [.t 6]⟩,
  ⟨some 10, none, .ext 1, [.t 6]⟩,
  ⟨some 1, none, .mov, [.t 9]⟩,
  ⟨some 2, none, .mov, [.t 10]⟩])
 (.seq (.reg false [
  ⟨some 12, none, .call 2000 (some 5) [.o t0] false, []⟩,
  ⟨some 13, none, .slice 2004 .snap t0 false true false, [.t 12, .int .i64 2]⟩,
  ⟨some 14, none, .call 2008 (some 6) [.o (.sl t0), .v tI] false, [.t 13]⟩,
  ⟨some 11, none, .mov, [.t 14]⟩,
  ⟨some 15, none, .ext 0, [.t 11]⟩,
  ⟨some 16, none, .ext 1, [.t 11]⟩,
  ⟨some 3, none, .mov, [.t 15]⟩,
  ⟨some 4, none, .mov, [.t 16]⟩])
 (.seq (.reg false [
  ⟨some 17, none, .build t0 [], []⟩,
  ⟨some 18, none, .build t0 [([false], tI)], [.int .i64 4]⟩,
  ⟨some 19, none, .build t0 [([true], tI)], [.int .i64 4]⟩,
  ⟨some 20, none, .bsl 3012 t0 3 [0, 1, 2], [.t 17, .t 18, .t 19]⟩,
  ⟨some 5, none, .mov, [.t 20]⟩])
 (.seq (.seq (.reg false [
  ⟨some 21, none, .mov, [.t 2]⟩,
  ⟨some 22, none, .bin .neq tI, [.t 21, .int .i64 0]⟩,
  ⟨some 23, none, .mov, [.t 22]⟩,
  ⟨some 24, (some (23, false)), .mov, [.t 4]⟩,
  ⟨some 25, (some (23, false)), .bin .neq tI, [.t 24, .int .i64 11]⟩,
  ⟨some 26, none, .pick, [.t 23, .bool true, .t 25]⟩,
  ⟨some 27, none, .mov, [.t 26]⟩,
  ⟨some 28, (some (27, false)), .mov, [.t 1]⟩,
  ⟨some 29, (some (27, false)), .len, [.t 28]⟩,
  ⟨some 30, (some (27, false)), .bin .neq tI, [.t 29, .int .i64 4]⟩,
  ⟨some 31, none, .pick, [.t 27, .bool true, .t 30]⟩])
 (.cond (.t 31) (.seq (.reg false [
  ⟨some 0, none, .mov, [.bool false]⟩])
 (.ret)) (.skip)))
 (.seq (.reg false [
  ⟨some 32, none, .mov, [.t 1]⟩,
  ⟨some 33, none, .iadr (.sl t0), [.t 32, .int .i64 0]⟩,
  ⟨some 34, none, .load (.sl t0), [.t 33]⟩,
  ⟨some 35, none, .build t0 [], []⟩,
  ⟨some 36, none, .build t0 [([false], tI)], [.int .i64 4]⟩,
  ⟨some 37, none, .build t0 [([false], tI), ([true], tI)], [.int .i64 4, .int .i64 1]⟩,
  ⟨some 38, none, .bsl 6024 t0 3 [0, 1, 2], [.t 35, .t 36, .t 37]⟩,
  ⟨some 39, none, .call 6028 (some 7) [.v .bool] false, [.t 34, .t 38]⟩,
  ⟨some 40, none, .mov, [.t 39]⟩,
  ⟨some 41, (some (40, true)), .mov, [.t 1]⟩,
  ⟨some 42, (some (40, true)), .iadr (.sl t0), [.t 41, .int .i64 3]⟩,
  ⟨some 43, (some (40, true)), .load (.sl t0), [.t 42]⟩,
  ⟨some 44, (some (40, true)), .build t0 [([false], tI), ([true], tI)], [.int .i64 1, .int .i64 1]⟩,
  ⟨some 45, (some (40, true)), .build t0 [([false], tI), ([true], tI)], [.int .i64 1, .int .i64 3]⟩,
  ⟨some 46, (some (40, true)), .build t0 [([true], tI)], [.int .i64 3]⟩,
  ⟨some 47, (some (40, true)), .bsl 6060 t0 3 [0, 1, 2], [.t 44, .t 45, .t 46]⟩,
  ⟨some 48, (some (40, true)), .call 6064 (some 7) [.v .bool] false, [.t 43, .t 47]⟩,
  ⟨some 49, none, .pick, [.t 40, .t 48, .bool false]⟩,
  ⟨some 50, none, .mov, [.t 49]⟩,
  ⟨some 51, (some (50, true)), .mov, [.t 5]⟩,
  ⟨some 52, (some (50, true)), .build t0 [([false], tI), ([true], tI)], [.int .i64 1, .int .i64 1]⟩,
  ⟨some 53, (some (50, true)), .call 6084 (some 2) [.v tI] false, [.t 51, .t 52]⟩,
  ⟨some 54, (some (50, true)), .bin .eql tI, [.t 53, .int .i64 1]⟩,
  ⟨some 55, none, .pick, [.t 50, .t 54, .bool false]⟩,
  ⟨some 56, none, .mov, [.t 55]⟩,
  ⟨some 57, (some (56, true)), .mov, [.t 5]⟩,
  ⟨some 58, (some (56, true)), .build t0 [([false], tI), ([true], tI)], [.int .i64 2, .int .i64 2]⟩,
  ⟨some 59, (some (56, true)), .call 6108 (some 2) [.v tI] false, [.t 57, .t 58]⟩,
  ⟨some 60, (some (56, true)), .bin .eql tI, [.t 59, .int .i64 0]⟩,
  ⟨some 61, none, .pick, [.t 56, .t 60, .bool false]⟩,
  ⟨some 62, none, .mov, [.t 61]⟩,
  ⟨some 63, (some (62, true)), .mov, [.t 5]⟩,
  ⟨some 64, (some (62, true)), .build t0 [([false], tI), ([true], tI)], [.int .i64 3, .int .i64 2]⟩,
  ⟨some 65, (some (62, true)), .call 6132 (some 2) [.v tI] false, [.t 63, .t 64]⟩,
  ⟨some 66, (some (62, true)), .bin .eql tI, [.t 65, .int .i64 (-1)]⟩,
  ⟨some 67, none, .pick, [.t 62, .t 66, .bool false]⟩,
  ⟨some 0, none, .mov, [.t 67]⟩])
 (.ret))))))⟩
def cf_triangle_Holds : Fn := ⟨2, 86, [.t 4], [.v tI], none,
 .seq (.reg false [
  ⟨some 3, none, .box 0 t0, [.t 1]⟩,
  ⟨some 4, none, .mov, [.int .i64 0]⟩])
 (.seq (.seq (.reg false [
  ⟨some 9, none, .mov, [.t 0]⟩,
  ⟨some 10, none, .len, [.t 9]⟩,
  ⟨some 11, none, .bin .neq tI, [.t 10, .int .i64 3]⟩,
  ⟨some 12, none, .mov, [.t 11]⟩,
  ⟨some 13, (some (12, false)), .mov, [.t 0]⟩,
  ⟨some 14, (some (12, false)), .iadr t0, [.t 13, .int .i64 0]⟩,
  ⟨some 15, (some (12, false)), .load t0, [.t 14]⟩,
  ⟨some 16, (some (12, false)), .call 1028 (some 29) [.v .bool] false, [.t 15]⟩,
  ⟨some 17, (some (12, false)), .not, [.t 16]⟩,
  ⟨some 18, none, .pick, [.t 12, .bool true, .t 17]⟩,
  ⟨some 19, none, .mov, [.t 18]⟩,
  ⟨some 20, (some (19, false)), .mov, [.t 0]⟩,
  ⟨some 21, (some (19, false)), .iadr t0, [.t 20, .int .i64 1]⟩,
  ⟨some 22, (some (19, false)), .load t0, [.t 21]⟩,
  ⟨some 23, (some (19, false)), .call 1056 (some 29) [.v .bool] false, [.t 22]⟩,
  ⟨some 24, (some (19, false)), .not, [.t 23]⟩,
  ⟨some 25, none, .pick, [.t 19, .bool true, .t 24]⟩,
  ⟨some 26, none, .mov, [.t 25]⟩,
  ⟨some 27, (some (26, false)), .mov, [.t 0]⟩,
  ⟨some 28, (some (26, false)), .iadr t0, [.t 27, .int .i64 2]⟩,
  ⟨some 29, (some (26, false)), .load t0, [.t 28]⟩,
  ⟨some 30, (some (26, false)), .call 1084 (some 29) [.v .bool] false, [.t 29]⟩,
  ⟨some 31, (some (26, false)), .not, [.t 30]⟩,
  ⟨some 32, none, .pick, [.t 26, .bool true, .t 31]⟩,
  ⟨some 33, none, .mov, [.t 32]⟩,
  ⟨some 34, (some (33, false)), .load t0, [.t 3]⟩,
  ⟨some 35, (some (33, false)), .call 1104 (some 29) [.v .bool] false, [.t 34]⟩,
  ⟨some 36, (some (33, false)), .not, [.t 35]⟩,
  ⟨some 37, none, .pick, [.t 33, .bool true, .t 36]⟩])
 (.cond (.t 37) (.seq (.reg false [
  ⟨some 4, none, .mov, [.int .i64 (-1)]⟩])
 (.ret)) (.skip)))
 (.seq (.reg true [
  ⟨some 38, none, .mov, [.t 0]⟩,
  ⟨some 39, none, .iadr t0, [.t 38, .int .i64 0]⟩,
  ⟨some 40, none, .load t0, [.t 39]⟩,
  ⟨some 41, none, .mov, [.t 0]⟩,
  ⟨some 42, none, .iadr t0, [.t 41, .int .i64 1]⟩,
  ⟨some 43, none, .loadi t0, [.t 42]⟩,
  ⟨some 44, none, .mov, [.t 0]⟩,
  ⟨some 45, none, .iadr t0, [.t 44, .int .i64 2]⟩,
  ⟨some 46, none, .loadi t0, [.t 45]⟩,
  ⟨some 5, none, .alloc 3036 t0, []⟩,
  ⟨some 6, none, .alloc 3040 t0, []⟩,
  ⟨some 7, none, .alloc 3044 t0, []⟩,
  ⟨none, none, .store t0, [.t 5, .t 40]⟩,
  ⟨none, none, .store t0, [.t 6, .t 43]⟩,
  ⟨none, none, .store t0, [.t 7, .t 46]⟩])
 (.seq (.seq (.reg false [
  ⟨some 47, none, .load t0, [.t 5]⟩,
  ⟨some 48, none, .load t0, [.t 6]⟩,
  ⟨some 49, none, .load t0, [.t 7]⟩,
  ⟨some 50, none, .call 4012 (some 27) [.v tI] false, [.t 47, .t 48, .t 49]⟩,
  ⟨some 8, none, .mov, [.t 50]⟩])
 (.block 0 (.seq (.reg false [
  ⟨some 52, none, .mov, [.t 8]⟩,
  ⟨some 53, none, .bin .eql tI, [.t 52, .int .i64 0]⟩,
  ⟨some 51, none, .mov, [.t 53]⟩])
 (.cond (.t 51) (.seq (.reg false [
  ⟨some 4, none, .mov, [.int .i64 (-1)]⟩])
 (.ret)) (.seq (.reg false [
  ⟨some 55, none, .mov, [.t 8]⟩,
  ⟨some 56, none, .bin .lss tI, [.t 55, .int .i64 0]⟩,
  ⟨some 54, none, .mov, [.t 56]⟩])
 (.cond (.t 54) (.reg false [
  ⟨some 57, none, .load t0, [.t 7]⟩,
  ⟨some 58, none, .load t0, [.t 6]⟩,
  ⟨none, none, .store t0, [.t 6, .t 57]⟩,
  ⟨none, none, .store t0, [.t 7, .t 58]⟩]) (.skip)))))))
 (.seq (.block 1 (.seq (.reg false [
  ⟨some 60, none, .load t0, [.t 5]⟩,
  ⟨some 61, none, .load t0, [.t 6]⟩,
  ⟨some 62, none, .load t0, [.t 7]⟩,
  ⟨some 63, none, .load t0, [.t 3]⟩,
  ⟨some 64, none, .call 9016 (some 28) [.v .bool] false, [.t 60, .t 61, .t 62, .t 63]⟩,
  ⟨some 65, none, .not, [.t 64]⟩,
  ⟨some 59, none, .mov, [.t 65]⟩])
 (.cond (.t 59) (.seq (.reg false [
  ⟨some 4, none, .mov, [.int .i64 (-1)]⟩])
 (.ret)) (.seq (.reg false [
  ⟨some 67, none, .load t0, [.t 5]⟩,
  ⟨some 68, none, .load t0, [.t 6]⟩,
  ⟨some 69, none, .load t0, [.t 3]⟩,
  ⟨some 70, none, .call 11012 (some 27) [.v tI] false, [.t 67, .t 68, .t 69]⟩,
  ⟨some 71, none, .bin .eql tI, [.t 70, .int .i64 0]⟩,
  ⟨some 72, none, .mov, [.t 71]⟩,
  ⟨some 73, (some (72, false)), .load t0, [.t 6]⟩,
  ⟨some 74, (some (72, false)), .load t0, [.t 7]⟩,
  ⟨some 75, (some (72, false)), .load t0, [.t 3]⟩,
  ⟨some 76, (some (72, false)), .call 11036 (some 27) [.v tI] false, [.t 73, .t 74, .t 75]⟩,
  ⟨some 77, (some (72, false)), .bin .eql tI, [.t 76, .int .i64 0]⟩,
  ⟨some 78, none, .pick, [.t 72, .bool true, .t 77]⟩,
  ⟨some 79, none, .mov, [.t 78]⟩,
  ⟨some 80, (some (79, false)), .load t0, [.t 7]⟩,
  ⟨some 81, (some (79, false)), .load t0, [.t 5]⟩,
  ⟨some 82, (some (79, false)), .load t0, [.t 3]⟩,
  ⟨some 83, (some (79, false)), .call 11064 (some 27) [.v tI] false, [.t 80, .t 81, .t 82]⟩,
  ⟨some 84, (some (79, false)), .bin .eql tI, [.t 83, .int .i64 0]⟩,
  ⟨some 85, none, .pick, [.t 79, .bool true, .t 84]⟩,
  ⟨some 66, none, .mov, [.t 85]⟩])
 (.cond (.t 66) (.seq (.reg false [
  ⟨some 4, none, .mov, [.int .i64 0]⟩])
 (.ret)) (.skip))))))
 (.seq (.reg false [
  ⟨some 4, none, .mov, [.int .i64 1]⟩])
 (.ret))))))⟩
def cf_garmentlaw13_bracket : Fn := ⟨0, 8, [.t 0], [.o t0], none,
 .seq (.reg false [
  ⟨some 0, none, .own0 0 t0, []⟩])
 (.seq (.reg false [
  ⟨some 1, none, .build t0 [], []⟩,
  ⟨some 2, none, .build t0 [([false], tI)], [.int .i64 4]⟩,
  ⟨some 3, none, .build t0 [([false], tI), ([true], tI)], [.int .i64 4, .int .i64 1]⟩,
  ⟨some 4, none, .build t0 [([false], tI), ([true], tI)], [.int .i64 1, .int .i64 1]⟩,
  ⟨some 5, none, .build t0 [([false], tI), ([true], tI)], [.int .i64 1, .int .i64 3]⟩,
  ⟨some 6, none, .build t0 [([true], tI)], [.int .i64 3]⟩,
  ⟨some 7, none, .bsl 1024 t0 6 [0, 1, 2, 3, 4, 5], [.t 1, .t 2, .t 3, .t 4, .t 5, .t 6]⟩,
  ⟨some 0, none, .mov, [.t 7]⟩])
 (.ret))⟩
def cf_triangle_Split : Fn := ⟨1, 82, [.t 2, .t 3], [.o (.sl t0), .v tI], none,
 .seq (.reg false [
  ⟨some 2, none, .own0 0 (.sl t0), []⟩,
  ⟨some 3, none, .mov, [.int .i64 0]⟩])
 (.seq (.reg false [
  ⟨some 13, none, .mov, [.t 0]⟩,
  ⟨some 14, none, .call 1004 (some 8) [.v (.sl t0), .v tI] false, [.t 13]⟩,
  ⟨some 12, none, .mov, [.t 14]⟩,
  ⟨some 15, none, .ext 0, [.t 12]⟩,
  ⟨some 16, none, .ext 1, [.t 12]⟩,
  ⟨some 4, none, .alloc 1020 (.sl t0), []⟩,
  ⟨none, none, .store (.sl t0), [.t 4, .t 15]⟩,
  ⟨some 5, none, .mov, [.t 16]⟩])
 (.seq (.seq (.reg false [
  ⟨some 17, none, .mov, [.t 5]⟩,
  ⟨some 18, none, .bin .neq tI, [.t 17, .int .i64 0]⟩])
 (.cond (.t 18) (.seq (.reg false [
  ⟨some 19, none, .mov, [.t 5]⟩,
  ⟨some 2, none, .own0 3004 (.sl t0), []⟩,
  ⟨some 3, none, .mov, [.t 19]⟩])
 (.ret)) (.skip)))
 (.seq (.reg false [
  ⟨some 20, none, .mkfn 9, [.t 4]⟩,
  ⟨some 6, none, .mov, [.t 20]⟩])
 (.seq (.reg false [
  ⟨some 21, none, .mkfn 10, [.t 4]⟩,
  ⟨some 7, none, .mov, [.t 21]⟩])
 (.seq (.reg false [
  ⟨some 8, none, .own0 6000 (.sl t0), []⟩])
 (.seq (.block 0 (.loop 100000 [4, 6, 7, 8] (.seq (.seq (.reg false [
  ⟨some 22, none, .load (.sl t0), [.t 4]⟩,
  ⟨some 23, none, .len, [.t 22]⟩,
  ⟨some 24, none, .bin .gtr tI, [.t 23, .int .i64 3]⟩])
 (.cond (.t 24) (.skip) (.exit 0)))
 (.block 1 (.seq (.seq (.reg false [
  ⟨some 25, none, .load (.sl t0), [.t 4]⟩,
  ⟨some 26, none, .len, [.t 25]⟩,
  ⟨some 27, none, .mov, [.t 6]⟩,
  ⟨some 28, none, .call 8012 (some 11) [.v tI] false, [.t 26, .t 27]⟩,
  ⟨some 9, none, .mov, [.t 28]⟩])
 (.seq (.reg false [
  ⟨some 29, none, .mov, [.t 9]⟩,
  ⟨some 30, none, .bin .geq tI, [.t 29, .int .i64 0]⟩])
 (.cond (.t 30) (.seq (.reg false [
  ⟨some 31, none, .load (.sl t0), [.t 4]⟩,
  ⟨some 32, none, .mov, [.t 9]⟩,
  ⟨some 33, none, .call 10008 (some 12) [.o t0] false, [.t 31, .t 32]⟩,
  ⟨none, none, .store (.sl t0), [.t 4, .t 33]⟩])
 (.exit 1)) (.skip))))
 (.seq (.reg false [
  ⟨some 34, none, .load (.sl t0), [.t 4]⟩,
  ⟨some 35, none, .len, [.t 34]⟩,
  ⟨some 36, none, .mov, [.t 7]⟩,
  ⟨some 37, none, .call 11012 (some 11) [.v tI] false, [.t 35, .t 36]⟩,
  ⟨some 10, none, .mov, [.t 37]⟩])
 (.seq (.seq (.reg false [
  ⟨some 38, none, .mov, [.t 10]⟩,
  ⟨some 39, none, .bin .lss tI, [.t 38, .int .i64 0]⟩])
 (.cond (.t 39) (.exit 0) (.skip)))
 (.seq (.reg false [
  ⟨some 40, none, .load (.sl t0), [.t 4]⟩,
  ⟨some 41, none, .len, [.t 40]⟩,
  ⟨some 11, none, .mov, [.t 41]⟩])
 (.seq (.reg true [
  ⟨some 42, none, .mov, [.t 8]⟩,
  ⟨some 43, none, .load (.sl t0), [.t 4]⟩,
  ⟨some 44, none, .mov, [.t 10]⟩,
  ⟨some 45, none, .mov, [.t 11]⟩,
  ⟨some 46, none, .bin .add tI, [.t 44, .t 45]⟩,
  ⟨some 47, none, .bin .sub tI, [.t 46, .int .i64 1]⟩,
  ⟨some 48, none, .mov, [.t 11]⟩,
  ⟨some 49, none, .bin .rem tI, [.t 47, .t 48]⟩,
  ⟨some 50, none, .iadr t0, [.t 43, .t 49]⟩,
  ⟨some 51, none, .load t0, [.t 50]⟩,
  ⟨some 52, none, .load (.sl t0), [.t 4]⟩,
  ⟨some 53, none, .mov, [.t 10]⟩,
  ⟨some 54, none, .iadr t0, [.t 52, .t 53]⟩,
  ⟨some 55, none, .load t0, [.t 54]⟩,
  ⟨some 56, none, .load (.sl t0), [.t 4]⟩,
  ⟨some 57, none, .mov, [.t 10]⟩,
  ⟨some 58, none, .bin .add tI, [.t 57, .int .i64 1]⟩,
  ⟨some 59, none, .mov, [.t 11]⟩,
  ⟨some 60, none, .bin .rem tI, [.t 58, .t 59]⟩,
  ⟨some 61, none, .iadr t0, [.t 56, .t 60]⟩,
  ⟨some 62, none, .load t0, [.t 61]⟩,
  ⟨some 63, none, .bsl 14084 t0 3 [0, 1, 2], [.t 51, .t 55, .t 62]⟩,
  ⟨some 64, none, .bsl 14088 (.sl t0) 1 [0], [.t 63]⟩,
  ⟨some 65, none, .app 14092 (.sl t0) 5864062014805, [.t 42, .t 64]⟩,
  ⟨some 8, none, .mov, [.t 65]⟩])
 (.reg false [
  ⟨some 66, none, .load (.sl t0), [.t 4]⟩,
  ⟨some 67, none, .mov, [.t 10]⟩,
  ⟨some 68, none, .call 15008 (some 12) [.o t0] false, [.t 66, .t 67]⟩,
  ⟨none, none, .store (.sl t0), [.t 4, .t 68]⟩]))))))))))
 (.seq (.reg true [
  ⟨some 69, none, .mov, [.t 8]⟩,
  ⟨some 70, none, .load (.sl t0), [.t 4]⟩,
  ⟨some 71, none, .iadr t0, [.t 70, .int .i64 0]⟩,
  ⟨some 72, none, .load t0, [.t 71]⟩,
  ⟨some 73, none, .load (.sl t0), [.t 4]⟩,
  ⟨some 74, none, .iadr t0, [.t 73, .int .i64 1]⟩,
  ⟨some 75, none, .load t0, [.t 74]⟩,
  ⟨some 76, none, .load (.sl t0), [.t 4]⟩,
  ⟨some 77, none, .iadr t0, [.t 76, .int .i64 2]⟩,
  ⟨some 78, none, .load t0, [.t 77]⟩,
  ⟨some 79, none, .bsl 16040 t0 3 [0, 1, 2], [.t 72, .t 75, .t 78]⟩,
  ⟨some 80, none, .bsl 16044 (.sl t0) 1 [0], [.t 79]⟩,
  ⟨some 81, none, .app 16048 (.sl t0) 5864062014805, [.t 69, .t 80]⟩,
  ⟨some 2, none, .mov, [.t 81]⟩,
  ⟨some 3, none, .mov, [.int .i64 0]⟩])
 (.ret))))))))⟩
def cf_garmentref11_Same : Fn := ⟨2, 26, [.t 4], [.v .bool], none,
 .seq (.reg false [
  ⟨some 4, none, .mov, [.bool false]⟩])
 (.seq (.seq (.reg false [
  ⟨some 6, none, .mov, [.t 0]⟩,
  ⟨some 7, none, .len, [.t 6]⟩,
  ⟨some 8, none, .mov, [.t 1]⟩,
  ⟨some 9, none, .len, [.t 8]⟩,
  ⟨some 10, none, .bin .neq tI, [.t 7, .t 9]⟩])
 (.cond (.t 10) (.seq (.reg false [
  ⟨some 4, none, .mov, [.bool false]⟩])
 (.ret)) (.skip)))
 (.seq (.seq (.reg false [
  ⟨some 5, none, .mov, [.int .i64 0]⟩])
 (.block 0 (.loop 100000 [0, 1, 5] (.seq (.seq (.reg false [
  ⟨some 11, none, .mov, [.t 5]⟩,
  ⟨some 12, none, .mov, [.t 0]⟩,
  ⟨some 13, none, .len, [.t 12]⟩,
  ⟨some 14, none, .bin .lss tI, [.t 11, .t 13]⟩])
 (.cond (.t 14) (.skip) (.exit 0)))
 (.seq (.block 1 (.seq (.reg true [
  ⟨some 17, none, .mov, [.t 0]⟩,
  ⟨some 18, none, .mov, [.t 5]⟩,
  ⟨some 19, none, .iadr t0, [.t 17, .t 18]⟩,
  ⟨some 20, none, .load t0, [.t 19]⟩,
  ⟨some 21, none, .mov, [.t 1]⟩,
  ⟨some 22, none, .mov, [.t 5]⟩,
  ⟨some 23, none, .iadr t0, [.t 21, .t 22]⟩,
  ⟨some 24, none, .load t0, [.t 23]⟩,
  ⟨some 25, none, .bin .neq t0, [.t 20, .t 24]⟩])
 (.cond (.t 25) (.seq (.reg false [
  ⟨some 4, none, .mov, [.bool false]⟩])
 (.ret)) (.skip))))
 (.reg false [
  ⟨some 15, none, .mov, [.t 5]⟩,
  ⟨some 16, none, .bin .add tI, [.t 15, .int .i64 1]⟩,
  ⟨some 5, none, .mov, [.t 16]⟩]))))))
 (.seq (.reg false [
  ⟨some 4, none, .mov, [.bool true]⟩])
 (.ret))))⟩
def cf_polygon_Normal : Fn := ⟨1, 68, [.t 2, .t 3], [.v (.sl t0), .v tI], none,
 .seq (.reg false [
  ⟨some 2, none, .own0 0 t0, []⟩,
  ⟨some 3, none, .mov, [.int .i64 0]⟩])
 (.seq (.seq (.reg false [
  ⟨some 9, none, .mov, [.t 0]⟩,
  ⟨some 10, none, .call 1004 (some 13) [.v tI] false, [.t 9]⟩,
  ⟨some 4, none, .mov, [.t 10]⟩])
 (.seq (.reg false [
  ⟨some 11, none, .mov, [.t 4]⟩,
  ⟨some 12, none, .bin .neq tI, [.t 11, .int .i64 0]⟩])
 (.cond (.t 12) (.seq (.reg false [
  ⟨some 13, none, .mov, [.t 4]⟩,
  ⟨some 2, none, .own0 3004 t0, []⟩,
  ⟨some 3, none, .mov, [.t 13]⟩])
 (.ret)) (.skip))))
 (.seq (.reg false [
  ⟨some 5, none, .own0 4000 t0, []⟩])
 (.seq (.seq (.reg false [
  ⟨some 14, none, .mov, [.t 0]⟩,
  ⟨some 15, none, .len, [.t 14]⟩,
  ⟨some 16, none, .mov, [.int .i64 0]⟩])
 (.block 0 (.loop 100000 [0, 5, 14, 15, 16] (.seq (.reg false [
  ⟨some 17, none, .bin .lss tI, [.t 16, .t 15]⟩])
 (.seq (.cond (.t 17) (.skip) (.exit 0))
 (.seq (.block 1 (.seq (.reg false [
  ⟨some 18, none, .mov, [.t 16]⟩,
  ⟨some 19, none, .iadr t0, [.t 14, .t 16]⟩,
  ⟨some 20, none, .load t0, [.t 19]⟩,
  ⟨some 7, none, .alloc 7012 t0, []⟩,
  ⟨some 6, none, .mov, [.t 18]⟩,
  ⟨none, none, .store t0, [.t 7, .t 20]⟩])
 (.seq (.reg true [
  ⟨some 21, none, .mov, [.t 0]⟩,
  ⟨some 22, none, .mov, [.t 6]⟩,
  ⟨some 23, none, .mov, [.t 0]⟩,
  ⟨some 24, none, .len, [.t 23]⟩,
  ⟨some 25, none, .bin .add tI, [.t 22, .t 24]⟩,
  ⟨some 26, none, .bin .sub tI, [.t 25, .int .i64 1]⟩,
  ⟨some 27, none, .mov, [.t 0]⟩,
  ⟨some 28, none, .len, [.t 27]⟩,
  ⟨some 29, none, .bin .rem tI, [.t 26, .t 28]⟩,
  ⟨some 30, none, .iadr t0, [.t 21, .t 29]⟩,
  ⟨some 31, none, .load t0, [.t 30]⟩,
  ⟨some 32, none, .load t0, [.t 7]⟩,
  ⟨some 33, none, .mov, [.t 0]⟩,
  ⟨some 34, none, .mov, [.t 6]⟩,
  ⟨some 35, none, .bin .add tI, [.t 34, .int .i64 1]⟩,
  ⟨some 36, none, .mov, [.t 0]⟩,
  ⟨some 37, none, .len, [.t 36]⟩,
  ⟨some 38, none, .bin .rem tI, [.t 35, .t 37]⟩,
  ⟨some 39, none, .iadr t0, [.t 33, .t 38]⟩,
  ⟨some 40, none, .load t0, [.t 39]⟩,
  ⟨some 41, none, .call 8080 (some 14) [.v tI] false, [.t 31, .t 32, .t 40]⟩,
  ⟨some 42, none, .bin .neq tI, [.t 41, .int .i64 0]⟩])
 (.cond (.t 42) (.reg false [
  ⟨some 43, none, .mov, [.t 5]⟩,
  ⟨some 44, none, .load t0, [.t 7]⟩,
  ⟨some 45, none, .bsl 9008 t0 1 [0], [.t 44]⟩,
  ⟨some 46, none, .app 9012 t0 8796093022208, [.t 43, .t 45]⟩,
  ⟨some 5, none, .mov, [.t 46]⟩]) (.skip)))))
 (.reg false [
  ⟨some 47, none, .bin .add tI, [.t 16, .int .i64 1]⟩,
  ⟨some 16, none, .mov, [.t 47]⟩])))))))
 (.seq (.seq (.reg false [
  ⟨some 48, none, .mov, [.t 0]⟩,
  ⟨some 49, none, .call 11004 (some 15) [.v tI] false, [.t 48]⟩,
  ⟨some 50, none, .bin .lss tI, [.t 49, .int .i64 0]⟩])
 (.cond (.t 50) (.reg false [
  ⟨some 51, none, .mov, [.t 5]⟩,
  ⟨some 52, none, .call 12004 (some 16) [] true, [.t 51]⟩]) (.skip)))
 (.seq (.reg false [
  ⟨some 53, none, .mov, [.t 5]⟩,
  ⟨some 54, none, .mov, [.t 5]⟩,
  ⟨some 55, none, .call 13008 (some 17) [.v t0] false, [.t 54, .fn 18]⟩,
  ⟨some 56, none, .call 13012 (some 19) [.v tI] false, [.t 53, .t 55]⟩,
  ⟨some 8, none, .mov, [.t 56]⟩])
 (.seq (.reg true [
  ⟨some 57, none, .mov, [.t 5]⟩,
  ⟨some 58, none, .mov, [.t 8]⟩,
  ⟨some 59, none, .mov, [.t 5]⟩,
  ⟨some 60, none, .len, [.t 59]⟩,
  ⟨some 61, none, .mov, [.t 5]⟩,
  ⟨some 62, none, .len, [.t 61]⟩,
  ⟨some 63, none, .slice 14024 .snap t0 true true true, [.t 57, .t 58, .t 60, .t 62]⟩,
  ⟨some 64, none, .mov, [.t 5]⟩,
  ⟨some 65, none, .mov, [.t 8]⟩,
  ⟨some 66, none, .slice 14036 .snap t0 false true false, [.t 64, .t 65]⟩,
  ⟨some 67, none, .app 14040 t0 8796093022208, [.t 63, .t 66]⟩,
  ⟨some 2, none, .mov, [.t 67]⟩,
  ⟨some 3, none, .mov, [.int .i64 0]⟩])
 (.ret)))))))⟩
def cf_triangle_Split_1 : Fn := ⟨4, 22, [.t 7], [.v .bool], none,
 .seq (.reg false [
  ⟨some 7, none, .mov, [.bool false]⟩])
 (.seq (.reg true [
  ⟨some 8, none, .load (.sl t0), [.t 3]⟩,
  ⟨some 9, none, .mov, [.t 0]⟩,
  ⟨some 10, none, .iadr t0, [.t 8, .t 9]⟩,
  ⟨some 11, none, .load t0, [.t 10]⟩,
  ⟨some 12, none, .load (.sl t0), [.t 3]⟩,
  ⟨some 13, none, .mov, [.t 1]⟩,
  ⟨some 14, none, .iadr t0, [.t 12, .t 13]⟩,
  ⟨some 15, none, .load t0, [.t 14]⟩,
  ⟨some 16, none, .load (.sl t0), [.t 3]⟩,
  ⟨some 17, none, .mov, [.t 2]⟩,
  ⟨some 18, none, .iadr t0, [.t 16, .t 17]⟩,
  ⟨some 19, none, .load t0, [.t 18]⟩,
  ⟨some 20, none, .call 1048 (some 27) [.v tI] false, [.t 11, .t 15, .t 19]⟩,
  ⟨some 21, none, .bin .eql tI, [.t 20, .int .i64 0]⟩,
  ⟨some 7, none, .mov, [.t 21]⟩])
 (.ret))⟩
def cf_triangle_Split_2 : Fn := ⟨4, 61, [.t 7], [.v .bool], none,
 .seq (.reg false [
  ⟨some 7, none, .mov, [.bool false]⟩])
 (.seq (.seq (.reg true [
  ⟨some 10, none, .load (.sl t0), [.t 3]⟩,
  ⟨some 11, none, .mov, [.t 0]⟩,
  ⟨some 12, none, .iadr t0, [.t 10, .t 11]⟩,
  ⟨some 13, none, .load t0, [.t 12]⟩,
  ⟨some 14, none, .load (.sl t0), [.t 3]⟩,
  ⟨some 15, none, .mov, [.t 1]⟩,
  ⟨some 16, none, .iadr t0, [.t 14, .t 15]⟩,
  ⟨some 17, none, .load t0, [.t 16]⟩,
  ⟨some 18, none, .load (.sl t0), [.t 3]⟩,
  ⟨some 19, none, .mov, [.t 2]⟩,
  ⟨some 20, none, .iadr t0, [.t 18, .t 19]⟩,
  ⟨some 21, none, .load t0, [.t 20]⟩,
  ⟨some 22, none, .call 1048 (some 27) [.v tI] false, [.t 13, .t 17, .t 21]⟩,
  ⟨some 23, none, .bin .leq tI, [.t 22, .int .i64 0]⟩])
 (.cond (.t 23) (.seq (.reg false [
  ⟨some 7, none, .mov, [.bool false]⟩])
 (.ret)) (.skip)))
 (.seq (.seq (.reg false [
  ⟨some 24, none, .load (.sl t0), [.t 3]⟩,
  ⟨some 25, none, .len, [.t 24]⟩,
  ⟨some 26, none, .mov, [.int .i64 0]⟩])
 (.block 0 (.loop 100000 [0, 1, 2, 3, 24, 25, 26] (.seq (.reg false [
  ⟨some 27, none, .bin .lss tI, [.t 26, .t 25]⟩])
 (.seq (.cond (.t 27) (.skip) (.exit 0))
 (.seq (.block 1 (.seq (.reg false [
  ⟨some 28, none, .mov, [.t 26]⟩,
  ⟨some 29, none, .iadr t0, [.t 24, .t 26]⟩,
  ⟨some 30, none, .load t0, [.t 29]⟩,
  ⟨some 9, none, .alloc 5012 t0, []⟩,
  ⟨some 8, none, .mov, [.t 28]⟩,
  ⟨none, none, .store t0, [.t 9, .t 30]⟩])
 (.seq (.reg true [
  ⟨some 31, none, .mov, [.t 8]⟩,
  ⟨some 32, none, .mov, [.t 0]⟩,
  ⟨some 33, none, .bin .neq tI, [.t 31, .t 32]⟩,
  ⟨some 34, none, .mov, [.t 33]⟩,
  ⟨some 35, (some (34, true)), .mov, [.t 8]⟩,
  ⟨some 36, (some (34, true)), .mov, [.t 1]⟩,
  ⟨some 37, (some (34, true)), .bin .neq tI, [.t 35, .t 36]⟩,
  ⟨some 38, none, .pick, [.t 34, .t 37, .bool false]⟩,
  ⟨some 39, none, .mov, [.t 38]⟩,
  ⟨some 40, (some (39, true)), .mov, [.t 8]⟩,
  ⟨some 41, (some (39, true)), .mov, [.t 2]⟩,
  ⟨some 42, (some (39, true)), .bin .neq tI, [.t 40, .t 41]⟩,
  ⟨some 43, none, .pick, [.t 39, .t 42, .bool false]⟩,
  ⟨some 44, none, .mov, [.t 43]⟩,
  ⟨some 45, (some (44, true)), .load (.sl t0), [.t 3]⟩,
  ⟨some 46, (some (44, true)), .mov, [.t 0]⟩,
  ⟨some 47, (some (44, true)), .iadr t0, [.t 45, .t 46]⟩,
  ⟨some 48, (some (44, true)), .load t0, [.t 47]⟩,
  ⟨some 49, (some (44, true)), .load (.sl t0), [.t 3]⟩,
  ⟨some 50, (some (44, true)), .mov, [.t 1]⟩,
  ⟨some 51, (some (44, true)), .iadr t0, [.t 49, .t 50]⟩,
  ⟨some 52, (some (44, true)), .load t0, [.t 51]⟩,
  ⟨some 53, (some (44, true)), .load (.sl t0), [.t 3]⟩,
  ⟨some 54, (some (44, true)), .mov, [.t 2]⟩,
  ⟨some 55, (some (44, true)), .iadr t0, [.t 53, .t 54]⟩,
  ⟨some 56, (some (44, true)), .load t0, [.t 55]⟩,
  ⟨some 57, (some (44, true)), .load t0, [.t 9]⟩,
  ⟨some 58, (some (44, true)), .call 6108 (some 28) [.v .bool] false, [.t 48, .t 52, .t 56, .t 57]⟩,
  ⟨some 59, none, .pick, [.t 44, .t 58, .bool false]⟩])
 (.cond (.t 59) (.seq (.reg false [
  ⟨some 7, none, .mov, [.bool false]⟩])
 (.ret)) (.skip)))))
 (.reg false [
  ⟨some 60, none, .bin .add tI, [.t 26, .int .i64 1]⟩,
  ⟨some 26, none, .mov, [.t 60]⟩])))))))
 (.seq (.reg false [
  ⟨some 7, none, .mov, [.bool true]⟩])
 (.ret))))⟩
def cf_triangle_find : Fn := ⟨2, 25, [.t 4], [.v tI], none,
 .seq (.reg false [
  ⟨some 4, none, .mov, [.int .i64 0]⟩])
 (.seq (.seq (.reg false [
  ⟨some 6, none, .mov, [.t 0]⟩,
  ⟨some 7, none, .mov, [.int .i64 0]⟩])
 (.block 0 (.loop 100000 [0, 1, 6, 7] (.seq (.reg false [
  ⟨some 8, none, .bin .lss tI, [.t 7, .t 6]⟩])
 (.seq (.cond (.t 8) (.skip) (.exit 0))
 (.seq (.block 1 (.seq (.reg false [
  ⟨some 9, none, .mov, [.t 7]⟩,
  ⟨some 5, none, .mov, [.t 9]⟩])
 (.seq (.reg true [
  ⟨some 10, none, .mov, [.t 1]⟩,
  ⟨some 11, none, .mov, [.t 5]⟩,
  ⟨some 12, none, .mov, [.t 0]⟩,
  ⟨some 13, none, .bin .add tI, [.t 11, .t 12]⟩,
  ⟨some 14, none, .bin .sub tI, [.t 13, .int .i64 1]⟩,
  ⟨some 15, none, .mov, [.t 0]⟩,
  ⟨some 16, none, .bin .rem tI, [.t 14, .t 15]⟩,
  ⟨some 17, none, .mov, [.t 5]⟩,
  ⟨some 18, none, .mov, [.t 5]⟩,
  ⟨some 19, none, .bin .add tI, [.t 18, .int .i64 1]⟩,
  ⟨some 20, none, .mov, [.t 0]⟩,
  ⟨some 21, none, .bin .rem tI, [.t 19, .t 20]⟩,
  ⟨some 22, none, .call 4048 none [.v .bool] false, [.t 10, .t 16, .t 17, .t 21]⟩])
 (.cond (.t 22) (.seq (.reg false [
  ⟨some 23, none, .mov, [.t 5]⟩,
  ⟨some 4, none, .mov, [.t 23]⟩])
 (.ret)) (.skip)))))
 (.reg false [
  ⟨some 24, none, .bin .add tI, [.t 7, .int .i64 1]⟩,
  ⟨some 7, none, .mov, [.t 24]⟩])))))))
 (.seq (.reg false [
  ⟨some 4, none, .mov, [.int .i64 (-1)]⟩])
 (.ret)))⟩
def cf_triangle_without : Fn := ⟨2, 24, [.t 4], [.o t0], none,
 .seq (.reg false [
  ⟨some 4, none, .own0 0 t0, []⟩])
 (.seq (.reg false [
  ⟨some 6, none, .mov, [.t 0]⟩,
  ⟨some 7, none, .len, [.t 6]⟩,
  ⟨some 8, none, .bin .sub tI, [.t 7, .int .i64 1]⟩,
  ⟨some 9, none, .mksl 1012 t0 17592186044416, [.t 8, .t 8]⟩,
  ⟨some 5, none, .mov, [.t 9]⟩])
 (.seq (.reg false [
  ⟨some 10, none, .mov, [.t 5]⟩,
  ⟨some 11, none, .mov, [.t 0]⟩,
  ⟨some 12, none, .mov, [.t 1]⟩,
  ⟨some 13, none, .slice 2012 .snap t0 false true false, [.t 11, .t 12]⟩,
  ⟨some 14, none, .copy t0, [.t 10, .t 13]⟩])
 (.seq (.reg true [
  ⟨some 15, none, .mov, [.t 5]⟩,
  ⟨some 16, none, .mov, [.t 1]⟩,
  ⟨some 17, none, .slice 3008 .view t0 true false false, [.t 15, .t 16]⟩,
  ⟨some 18, none, .mov, [.t 0]⟩,
  ⟨some 19, none, .mov, [.t 1]⟩,
  ⟨some 20, none, .bin .add tI, [.t 19, .int .i64 1]⟩,
  ⟨some 21, none, .slicei t0 true false false, [.t 18, .t 20]⟩,
  ⟨some 22, none, .copy t0, [.t 17, .t 21]⟩])
 (.seq (.reg false [
  ⟨some 23, none, .mov, [.t 5]⟩,
  ⟨some 4, none, .mov, [.t 23]⟩])
 (.ret)))))⟩
def cf_polygon_Check : Fn := ⟨1, 31, [.t 2], [.v tI], none,
 .seq (.reg false [
  ⟨some 2, none, .mov, [.int .i64 0]⟩])
 (.seq (.seq (.reg false [
  ⟨some 5, none, .mov, [.t 0]⟩,
  ⟨some 6, none, .len, [.t 5]⟩,
  ⟨some 7, none, .bin .gtr tI, [.t 6, .int .i64 40]⟩])
 (.cond (.t 7) (.seq (.reg false [
  ⟨some 2, none, .mov, [.int .i64 5]⟩])
 (.ret)) (.skip)))
 (.seq (.seq (.reg false [
  ⟨some 8, none, .mov, [.t 0]⟩,
  ⟨some 9, none, .len, [.t 8]⟩,
  ⟨some 10, none, .bin .lss tI, [.t 9, .int .i64 3]⟩])
 (.cond (.t 10) (.seq (.reg false [
  ⟨some 2, none, .mov, [.int .i64 11]⟩])
 (.ret)) (.skip)))
 (.seq (.seq (.reg false [
  ⟨some 11, none, .mov, [.t 0]⟩,
  ⟨some 12, none, .len, [.t 11]⟩,
  ⟨some 13, none, .mov, [.int .i64 0]⟩])
 (.block 0 (.loop 100000 [0, 11, 12, 13] (.seq (.reg false [
  ⟨some 14, none, .bin .lss tI, [.t 13, .t 12]⟩])
 (.seq (.cond (.t 14) (.skip) (.exit 0))
 (.seq (.block 1 (.seq (.reg false [
  ⟨some 15, none, .iadr t0, [.t 11, .t 13]⟩,
  ⟨some 16, none, .load t0, [.t 15]⟩,
  ⟨some 4, none, .alloc 7008 t0, []⟩,
  ⟨none, none, .store t0, [.t 4, .t 16]⟩])
 (.seq (.reg false [
  ⟨some 17, none, .fadr t0 [false], [.t 4]⟩,
  ⟨some 18, none, .load tI, [.t 17]⟩,
  ⟨some 19, none, .call 8008 (some 20) [.v .bool] false, [.t 18]⟩,
  ⟨some 20, none, .not, [.t 19]⟩,
  ⟨some 21, none, .mov, [.t 20]⟩,
  ⟨some 22, (some (21, false)), .fadr t0 [true], [.t 4]⟩,
  ⟨some 23, (some (21, false)), .load tI, [.t 22]⟩,
  ⟨some 24, (some (21, false)), .call 8028 (some 20) [.v .bool] false, [.t 23]⟩,
  ⟨some 25, (some (21, false)), .not, [.t 24]⟩,
  ⟨some 26, none, .pick, [.t 21, .bool true, .t 25]⟩])
 (.cond (.t 26) (.seq (.reg false [
  ⟨some 2, none, .mov, [.int .i64 3]⟩])
 (.ret)) (.skip)))))
 (.reg false [
  ⟨some 27, none, .bin .add tI, [.t 13, .int .i64 1]⟩,
  ⟨some 13, none, .mov, [.t 27]⟩])))))))
 (.seq (.seq (.reg false [
  ⟨some 28, none, .mov, [.t 0]⟩,
  ⟨some 29, none, .call 11004 (some 21) [.v .bool] false, [.t 28]⟩,
  ⟨some 30, none, .not, [.t 29]⟩])
 (.cond (.t 30) (.seq (.reg false [
  ⟨some 2, none, .mov, [.int .i64 11]⟩])
 (.ret)) (.skip)))
 (.seq (.reg false [
  ⟨some 2, none, .mov, [.int .i64 0]⟩])
 (.ret))))))⟩
def cf_polygon_turn : Fn := ⟨3, 30, [.t 6], [.v tI], none,
 .seq (.reg false [
  ⟨some 3, none, .box 0 t0, [.t 0]⟩,
  ⟨some 4, none, .box 4 t0, [.t 1]⟩,
  ⟨some 5, none, .box 8 t0, [.t 2]⟩,
  ⟨some 6, none, .mov, [.int .i64 0]⟩])
 (.seq (.reg false [
  ⟨some 7, none, .fadr t0 [false], [.t 4]⟩,
  ⟨some 8, none, .load tI, [.t 7]⟩,
  ⟨some 9, none, .fadr t0 [false], [.t 3]⟩,
  ⟨some 10, none, .load tI, [.t 9]⟩,
  ⟨some 11, none, .bin .sub tI, [.t 8, .t 10]⟩,
  ⟨some 12, none, .fadr t0 [true], [.t 5]⟩,
  ⟨some 13, none, .load tI, [.t 12]⟩,
  ⟨some 14, none, .fadr t0 [true], [.t 4]⟩,
  ⟨some 15, none, .load tI, [.t 14]⟩,
  ⟨some 16, none, .bin .sub tI, [.t 13, .t 15]⟩,
  ⟨some 17, none, .bin .mul tI, [.t 11, .t 16]⟩,
  ⟨some 18, none, .fadr t0 [true], [.t 4]⟩,
  ⟨some 19, none, .load tI, [.t 18]⟩,
  ⟨some 20, none, .fadr t0 [true], [.t 3]⟩,
  ⟨some 21, none, .load tI, [.t 20]⟩,
  ⟨some 22, none, .bin .sub tI, [.t 19, .t 21]⟩,
  ⟨some 23, none, .fadr t0 [false], [.t 5]⟩,
  ⟨some 24, none, .load tI, [.t 23]⟩,
  ⟨some 25, none, .fadr t0 [false], [.t 4]⟩,
  ⟨some 26, none, .load tI, [.t 25]⟩,
  ⟨some 27, none, .bin .sub tI, [.t 24, .t 26]⟩,
  ⟨some 28, none, .bin .mul tI, [.t 22, .t 27]⟩,
  ⟨some 29, none, .bin .sub tI, [.t 17, .t 28]⟩,
  ⟨some 6, none, .mov, [.t 29]⟩])
 (.ret))⟩
def cf_polygon_area : Fn := ⟨1, 33, [.t 2], [.v tI], none,
 .seq (.reg false [
  ⟨some 2, none, .mov, [.int .i64 0]⟩])
 (.seq (.reg false [
  ⟨some 3, none, .mov, [.int .i64 0]⟩])
 (.seq (.seq (.reg false [
  ⟨some 6, none, .mov, [.t 0]⟩,
  ⟨some 7, none, .call 2004 (some 22) [.o t1] false, [.t 6]⟩,
  ⟨some 8, none, .len, [.t 7]⟩,
  ⟨some 9, none, .mov, [.int .i64 0]⟩])
 (.block 0 (.loop 100000 [3, 7, 8, 9] (.seq (.reg false [
  ⟨some 10, none, .bin .lss tI, [.t 9, .t 8]⟩])
 (.seq (.cond (.t 10) (.skip) (.exit 0))
 (.seq (.block 1 (.seq (.reg false [
  ⟨some 11, none, .iadr t1, [.t 7, .t 9]⟩,
  ⟨some 12, none, .load t1, [.t 11]⟩,
  ⟨some 5, none, .alloc 4008 t1, []⟩,
  ⟨none, none, .store t1, [.t 5, .t 12]⟩])
 (.reg false [
  ⟨some 13, none, .mov, [.t 3]⟩,
  ⟨some 14, none, .fadr t1 [true], [.t 5]⟩,
  ⟨some 15, none, .fadr t0 [false], [.t 14]⟩,
  ⟨some 16, none, .load tI, [.t 15]⟩,
  ⟨some 17, none, .fadr t1 [false], [.t 5]⟩,
  ⟨some 18, none, .fadr t0 [false], [.t 17]⟩,
  ⟨some 19, none, .load tI, [.t 18]⟩,
  ⟨some 20, none, .bin .sub tI, [.t 16, .t 19]⟩,
  ⟨some 21, none, .fadr t1 [false], [.t 5]⟩,
  ⟨some 22, none, .fadr t0 [true], [.t 21]⟩,
  ⟨some 23, none, .load tI, [.t 22]⟩,
  ⟨some 24, none, .fadr t1 [true], [.t 5]⟩,
  ⟨some 25, none, .fadr t0 [true], [.t 24]⟩,
  ⟨some 26, none, .load tI, [.t 25]⟩,
  ⟨some 27, none, .bin .add tI, [.t 23, .t 26]⟩,
  ⟨some 28, none, .bin .mul tI, [.t 20, .t 27]⟩,
  ⟨some 29, none, .bin .add tI, [.t 13, .t 28]⟩,
  ⟨some 3, none, .mov, [.t 29]⟩])))
 (.reg false [
  ⟨some 30, none, .bin .add tI, [.t 9, .int .i64 1]⟩,
  ⟨some 9, none, .mov, [.t 30]⟩])))))))
 (.seq (.reg false [
  ⟨some 31, none, .mov, [.t 3]⟩,
  ⟨some 32, none, .neg .i64, [.t 31]⟩,
  ⟨some 2, none, .mov, [.t 32]⟩])
 (.ret))))⟩
def cf_slices_Reverse_api_Spot_api_Spot : Fn := ⟨1, 28, [], [], none,
 .seq (.reg false [
  ⟨some 4, none, .mov, [.t 0]⟩,
  ⟨some 5, none, .len, [.t 4]⟩,
  ⟨some 6, none, .bin .sub tI, [.t 5, .int .i64 1]⟩,
  ⟨some 2, none, .mov, [.int .i64 0]⟩,
  ⟨some 3, none, .mov, [.t 6]⟩])
 (.block 0 (.loop 100000 [0, 2, 3] (.seq (.seq (.reg false [
  ⟨some 7, none, .mov, [.t 2]⟩,
  ⟨some 8, none, .mov, [.t 3]⟩,
  ⟨some 9, none, .bin .lss tI, [.t 7, .t 8]⟩])
 (.cond (.t 9) (.skip) (.exit 0)))
 (.seq (.block 1 (.reg true [
  ⟨some 14, none, .mov, [.t 0]⟩,
  ⟨some 15, none, .mov, [.t 2]⟩,
  ⟨some 16, none, .mov, [.t 0]⟩,
  ⟨some 17, none, .mov, [.t 3]⟩,
  ⟨some 18, none, .mov, [.t 0]⟩,
  ⟨some 19, none, .mov, [.t 3]⟩,
  ⟨some 20, none, .iadr t0, [.t 18, .t 19]⟩,
  ⟨some 21, none, .load t0, [.t 20]⟩,
  ⟨some 22, none, .mov, [.t 0]⟩,
  ⟨some 23, none, .mov, [.t 2]⟩,
  ⟨some 24, none, .iadr t0, [.t 22, .t 23]⟩,
  ⟨some 25, none, .load t0, [.t 24]⟩,
  ⟨some 26, none, .iadr t0, [.t 14, .t 15]⟩,
  ⟨none, none, .store t0, [.t 26, .t 21]⟩,
  ⟨some 27, none, .iadr t0, [.t 16, .t 17]⟩,
  ⟨none, none, .store t0, [.t 27, .t 25]⟩]))
 (.reg false [
  ⟨some 10, none, .mov, [.t 2]⟩,
  ⟨some 11, none, .bin .add tI, [.t 10, .int .i64 1]⟩,
  ⟨some 12, none, .mov, [.t 3]⟩,
  ⟨some 13, none, .bin .sub tI, [.t 12, .int .i64 1]⟩,
  ⟨some 2, none, .mov, [.t 11]⟩,
  ⟨some 3, none, .mov, [.t 13]⟩])))))⟩
def cf_slices_MinFunc_api_Spot_api_Spot : Fn := ⟨2, 33, [.c 4 t0], [.v t0], none,
 .seq (.reg false [
  ⟨some 4, none, .alloc 0 t0, []⟩])
 (.seq (.seq (.reg false [
  ⟨some 7, none, .mov, [.t 0]⟩,
  ⟨some 8, none, .len, [.t 7]⟩,
  ⟨some 9, none, .bin .lss tI, [.t 8, .int .i64 1]⟩])
 (.cond (.t 9) (.reg false [
  ⟨some 10, none, .cap, []⟩,
  ⟨none, none, .cap, []⟩]) (.skip)))
 (.seq (.reg false [
  ⟨some 11, none, .mov, [.t 0]⟩,
  ⟨some 12, none, .iadr t0, [.t 11, .int .i64 0]⟩,
  ⟨some 13, none, .load t0, [.t 12]⟩,
  ⟨some 5, none, .alloc 3012 t0, []⟩,
  ⟨none, none, .store t0, [.t 5, .t 13]⟩])
 (.seq (.seq (.reg false [
  ⟨some 6, none, .mov, [.int .i64 1]⟩])
 (.block 0 (.loop 100000 [0, 1, 4, 5, 6] (.seq (.seq (.reg false [
  ⟨some 14, none, .mov, [.t 6]⟩,
  ⟨some 15, none, .mov, [.t 0]⟩,
  ⟨some 16, none, .len, [.t 15]⟩,
  ⟨some 17, none, .bin .lss tI, [.t 14, .t 16]⟩])
 (.cond (.t 17) (.skip) (.exit 0)))
 (.seq (.block 1 (.seq (.reg true [
  ⟨some 20, none, .mov, [.t 1]⟩,
  ⟨some 21, none, .mov, [.t 0]⟩,
  ⟨some 22, none, .mov, [.t 6]⟩,
  ⟨some 23, none, .iadr t0, [.t 21, .t 22]⟩,
  ⟨some 24, none, .load t0, [.t 23]⟩,
  ⟨some 25, none, .load t0, [.t 5]⟩,
  ⟨some 26, none, .call 7024 none [.v tI] false, [.t 20, .t 24, .t 25]⟩,
  ⟨some 27, none, .bin .lss tI, [.t 26, .int .i64 0]⟩])
 (.cond (.t 27) (.reg false [
  ⟨some 28, none, .mov, [.t 0]⟩,
  ⟨some 29, none, .mov, [.t 6]⟩,
  ⟨some 30, none, .iadr t0, [.t 28, .t 29]⟩,
  ⟨some 31, none, .load t0, [.t 30]⟩,
  ⟨none, none, .store t0, [.t 5, .t 31]⟩]) (.skip))))
 (.reg false [
  ⟨some 18, none, .mov, [.t 6]⟩,
  ⟨some 19, none, .bin .add tI, [.t 18, .int .i64 1]⟩,
  ⟨some 6, none, .mov, [.t 19]⟩]))))))
 (.seq (.reg false [
  ⟨some 32, none, .load t0, [.t 5]⟩,
  ⟨none, none, .store t0, [.t 4, .t 32]⟩])
 (.ret)))))⟩
def cf_polygon_order : Fn := ⟨2, 29, [.t 4], [.v tI], none,
 .seq (.reg false [
  ⟨some 2, none, .box 0 t0, [.t 0]⟩,
  ⟨some 3, none, .box 4 t0, [.t 1]⟩,
  ⟨some 4, none, .mov, [.int .i64 0]⟩])
 (.seq (.block 0 (.seq (.reg false [
  ⟨some 6, none, .load t0, [.t 2]⟩,
  ⟨some 7, none, .load t0, [.t 3]⟩,
  ⟨some 8, none, .bin .eql t0, [.t 6, .t 7]⟩,
  ⟨some 5, none, .mov, [.t 8]⟩])
 (.cond (.t 5) (.seq (.reg false [
  ⟨some 4, none, .mov, [.int .i64 0]⟩])
 (.ret)) (.seq (.reg false [
  ⟨some 10, none, .fadr t0 [false], [.t 2]⟩,
  ⟨some 11, none, .load tI, [.t 10]⟩,
  ⟨some 12, none, .fadr t0 [false], [.t 3]⟩,
  ⟨some 13, none, .load tI, [.t 12]⟩,
  ⟨some 14, none, .bin .lss tI, [.t 11, .t 13]⟩,
  ⟨some 15, none, .mov, [.t 14]⟩,
  ⟨some 16, (some (15, false)), .fadr t0 [false], [.t 2]⟩,
  ⟨some 17, (some (15, false)), .load tI, [.t 16]⟩,
  ⟨some 18, (some (15, false)), .fadr t0 [false], [.t 3]⟩,
  ⟨some 19, (some (15, false)), .load tI, [.t 18]⟩,
  ⟨some 20, (some (15, false)), .bin .eql tI, [.t 17, .t 19]⟩,
  ⟨some 21, (some (15, false)), .mov, [.t 20]⟩,
  ⟨some 22, (some (21, true)), .fadr t0 [true], [.t 2]⟩,
  ⟨some 23, (some (21, true)), .load tI, [.t 22]⟩,
  ⟨some 24, (some (21, true)), .fadr t0 [true], [.t 3]⟩,
  ⟨some 25, (some (21, true)), .load tI, [.t 24]⟩,
  ⟨some 26, (some (21, true)), .bin .lss tI, [.t 23, .t 25]⟩,
  ⟨some 27, (some (15, false)), .pick, [.t 21, .t 26, .bool false]⟩,
  ⟨some 28, none, .pick, [.t 15, .bool true, .t 27]⟩,
  ⟨some 9, none, .mov, [.t 28]⟩])
 (.cond (.t 9) (.seq (.reg false [
  ⟨some 4, none, .mov, [.int .i64 (-1)]⟩])
 (.ret)) (.skip))))))
 (.seq (.reg false [
  ⟨some 4, none, .mov, [.int .i64 1]⟩])
 (.ret)))⟩
def cf_slices_Index_api_Spot_api_Spot : Fn := ⟨2, 19, [.t 4], [.v tI], none,
 .seq (.reg false [
  ⟨some 3, none, .box 0 t0, [.t 1]⟩,
  ⟨some 4, none, .mov, [.int .i64 0]⟩])
 (.seq (.seq (.reg false [
  ⟨some 6, none, .mov, [.t 0]⟩,
  ⟨some 7, none, .len, [.t 6]⟩,
  ⟨some 8, none, .mov, [.int .i64 0]⟩])
 (.block 0 (.loop 100000 [0, 3, 7, 8] (.seq (.reg false [
  ⟨some 9, none, .bin .lss tI, [.t 8, .t 7]⟩])
 (.seq (.cond (.t 9) (.skip) (.exit 0))
 (.seq (.block 1 (.seq (.reg false [
  ⟨some 10, none, .mov, [.t 8]⟩,
  ⟨some 5, none, .mov, [.t 10]⟩])
 (.seq (.reg true [
  ⟨some 11, none, .load t0, [.t 3]⟩,
  ⟨some 12, none, .mov, [.t 0]⟩,
  ⟨some 13, none, .mov, [.t 5]⟩,
  ⟨some 14, none, .iadr t0, [.t 12, .t 13]⟩,
  ⟨some 15, none, .load t0, [.t 14]⟩,
  ⟨some 16, none, .bin .eql t0, [.t 11, .t 15]⟩])
 (.cond (.t 16) (.seq (.reg false [
  ⟨some 17, none, .mov, [.t 5]⟩,
  ⟨some 4, none, .mov, [.t 17]⟩])
 (.ret)) (.skip)))))
 (.reg false [
  ⟨some 18, none, .bin .add tI, [.t 8, .int .i64 1]⟩,
  ⟨some 8, none, .mov, [.t 18]⟩])))))))
 (.seq (.reg false [
  ⟨some 4, none, .mov, [.int .i64 (-1)]⟩])
 (.ret)))⟩
def cf_polygon_inside : Fn := ⟨1, 9, [.t 2], [.v .bool], none,
 .seq (.reg false [
  ⟨some 2, none, .mov, [.bool false]⟩])
 (.seq (.reg false [
  ⟨some 3, none, .mov, [.t 0]⟩,
  ⟨some 4, none, .bin .geq tI, [.t 3, .int .i64 (-1048576)]⟩,
  ⟨some 5, none, .mov, [.t 4]⟩,
  ⟨some 6, (some (5, true)), .mov, [.t 0]⟩,
  ⟨some 7, (some (5, true)), .bin .leq tI, [.t 6, .int .i64 1048576]⟩,
  ⟨some 8, none, .pick, [.t 5, .t 7, .bool false]⟩,
  ⟨some 2, none, .mov, [.t 8]⟩])
 (.ret))⟩
def cf_polygon_simple : Fn := ⟨1, 64, [.t 2], [.v .bool], none,
 .seq (.reg false [
  ⟨some 2, none, .mov, [.bool false]⟩])
 (.seq (.reg false [
  ⟨some 8, none, .mov, [.t 0]⟩,
  ⟨some 9, none, .call 1004 (some 22) [.o t1] false, [.t 8]⟩,
  ⟨some 3, none, .mov, [.t 9]⟩])
 (.seq (.seq (.reg false [
  ⟨some 10, none, .mov, [.t 3]⟩,
  ⟨some 11, none, .len, [.t 10]⟩,
  ⟨some 12, none, .mov, [.int .i64 0]⟩])
 (.block 0 (.loop 100000 [3, 10, 11, 12] (.seq (.reg false [
  ⟨some 13, none, .bin .lss tI, [.t 12, .t 11]⟩])
 (.seq (.cond (.t 13) (.skip) (.exit 0))
 (.seq (.block 1 (.seq (.reg false [
  ⟨some 14, none, .mov, [.t 12]⟩,
  ⟨some 15, none, .iadr t1, [.t 10, .t 12]⟩,
  ⟨some 16, none, .load t1, [.t 15]⟩,
  ⟨some 5, none, .alloc 4012 t1, []⟩,
  ⟨some 4, none, .mov, [.t 14]⟩,
  ⟨none, none, .store t1, [.t 5, .t 16]⟩])
 (.seq (.seq (.reg false [
  ⟨some 17, none, .fadr t1 [false], [.t 5]⟩,
  ⟨some 18, none, .load t0, [.t 17]⟩,
  ⟨some 19, none, .fadr t1 [true], [.t 5]⟩,
  ⟨some 20, none, .load t0, [.t 19]⟩,
  ⟨some 21, none, .bin .eql t0, [.t 18, .t 20]⟩])
 (.cond (.t 21) (.seq (.reg false [
  ⟨some 2, none, .mov, [.bool false]⟩])
 (.ret)) (.skip)))
 (.seq (.reg false [
  ⟨some 22, none, .mov, [.t 3]⟩,
  ⟨some 23, none, .mov, [.t 4]⟩,
  ⟨some 24, none, .bin .add tI, [.t 23, .int .i64 1]⟩,
  ⟨some 25, none, .mov, [.t 3]⟩,
  ⟨some 26, none, .len, [.t 25]⟩,
  ⟨some 27, none, .bin .rem tI, [.t 24, .t 26]⟩,
  ⟨some 28, none, .iadr t1, [.t 22, .t 27]⟩,
  ⟨some 29, none, .load t1, [.t 28]⟩,
  ⟨some 6, none, .alloc 7032 t1, []⟩,
  ⟨none, none, .store t1, [.t 6, .t 29]⟩])
 (.seq (.seq (.reg false [
  ⟨some 30, none, .load t1, [.t 5]⟩,
  ⟨some 31, none, .fadr t1 [true], [.t 6]⟩,
  ⟨some 32, none, .load t0, [.t 31]⟩,
  ⟨some 33, none, .call 8012 (some 23) [.v .bool] false, [.t 30, .t 32]⟩,
  ⟨some 34, none, .mov, [.t 33]⟩,
  ⟨some 35, (some (34, false)), .load t1, [.t 6]⟩,
  ⟨some 36, (some (34, false)), .fadr t1 [false], [.t 5]⟩,
  ⟨some 37, (some (34, false)), .load t0, [.t 36]⟩,
  ⟨some 38, (some (34, false)), .call 8032 (some 23) [.v .bool] false, [.t 35, .t 37]⟩,
  ⟨some 39, none, .pick, [.t 34, .bool true, .t 38]⟩])
 (.cond (.t 39) (.seq (.reg false [
  ⟨some 2, none, .mov, [.bool false]⟩])
 (.ret)) (.skip)))
 (.seq (.reg false [
  ⟨some 40, none, .mov, [.t 4]⟩,
  ⟨some 41, none, .bin .add tI, [.t 40, .int .i64 2]⟩,
  ⟨some 7, none, .mov, [.t 41]⟩])
 (.block 2 (.loop 200000 [3, 4, 5, 7, 10, 11, 12] (.seq (.seq (.reg false [
  ⟨some 42, none, .mov, [.t 7]⟩,
  ⟨some 43, none, .mov, [.t 3]⟩,
  ⟨some 44, none, .len, [.t 43]⟩,
  ⟨some 45, none, .bin .lss tI, [.t 42, .t 44]⟩])
 (.cond (.t 45) (.skip) (.exit 2)))
 (.seq (.block 3 (.seq (.seq (.reg false [
  ⟨some 48, none, .mov, [.t 4]⟩,
  ⟨some 49, none, .bin .eql tI, [.t 48, .int .i64 0]⟩,
  ⟨some 50, none, .mov, [.t 49]⟩,
  ⟨some 51, (some (50, true)), .mov, [.t 7]⟩,
  ⟨some 52, (some (50, true)), .mov, [.t 3]⟩,
  ⟨some 53, (some (50, true)), .len, [.t 52]⟩,
  ⟨some 54, (some (50, true)), .bin .sub tI, [.t 53, .int .i64 1]⟩,
  ⟨some 55, (some (50, true)), .bin .eql tI, [.t 51, .t 54]⟩,
  ⟨some 56, none, .pick, [.t 50, .t 55, .bool false]⟩])
 (.cond (.t 56) (.exit 3) (.skip)))
 (.seq (.reg true [
  ⟨some 57, none, .load t1, [.t 5]⟩,
  ⟨some 58, none, .mov, [.t 3]⟩,
  ⟨some 59, none, .mov, [.t 7]⟩,
  ⟨some 60, none, .iadr t1, [.t 58, .t 59]⟩,
  ⟨some 61, none, .load t1, [.t 60]⟩,
  ⟨some 62, none, .call 14020 (some 24) [.v .bool] false, [.t 57, .t 61]⟩])
 (.cond (.t 62) (.seq (.reg false [
  ⟨some 2, none, .mov, [.bool false]⟩])
 (.ret)) (.skip)))))
 (.reg false [
  ⟨some 46, none, .mov, [.t 7]⟩,
  ⟨some 47, none, .bin .add tI, [.t 46, .int .i64 1]⟩,
  ⟨some 7, none, .mov, [.t 47]⟩])))))))))))
 (.reg false [
  ⟨some 63, none, .bin .add tI, [.t 12, .int .i64 1]⟩,
  ⟨some 12, none, .mov, [.t 63]⟩])))))))
 (.seq (.reg false [
  ⟨some 2, none, .mov, [.bool true]⟩])
 (.ret))))⟩
def cf_polygon_sides : Fn := ⟨1, 31, [.t 2], [.o t1], none,
 .seq (.reg false [
  ⟨some 2, none, .own0 0 t1, []⟩])
 (.seq (.reg false [
  ⟨some 6, none, .mov, [.t 0]⟩,
  ⟨some 7, none, .len, [.t 6]⟩,
  ⟨some 8, none, .mksl 1008 t1 8796093022208, [.t 7, .t 7]⟩,
  ⟨some 3, none, .mov, [.t 8]⟩])
 (.seq (.seq (.reg false [
  ⟨some 9, none, .mov, [.t 0]⟩,
  ⟨some 10, none, .len, [.t 9]⟩,
  ⟨some 11, none, .mov, [.int .i64 0]⟩])
 (.block 0 (.loop 100000 [0, 3, 9, 10, 11] (.seq (.reg false [
  ⟨some 12, none, .bin .lss tI, [.t 11, .t 10]⟩])
 (.seq (.cond (.t 12) (.skip) (.exit 0))
 (.seq (.block 1 (.seq (.reg false [
  ⟨some 13, none, .mov, [.t 11]⟩,
  ⟨some 14, none, .iadr t0, [.t 9, .t 11]⟩,
  ⟨some 15, none, .load t0, [.t 14]⟩,
  ⟨some 5, none, .alloc 4012 t0, []⟩,
  ⟨some 4, none, .mov, [.t 13]⟩,
  ⟨none, none, .store t0, [.t 5, .t 15]⟩])
 (.reg true [
  ⟨some 16, none, .mov, [.t 3]⟩,
  ⟨some 17, none, .mov, [.t 4]⟩,
  ⟨some 18, none, .load t0, [.t 5]⟩,
  ⟨some 19, none, .mov, [.t 0]⟩,
  ⟨some 20, none, .mov, [.t 4]⟩,
  ⟨some 21, none, .bin .add tI, [.t 20, .int .i64 1]⟩,
  ⟨some 22, none, .mov, [.t 0]⟩,
  ⟨some 23, none, .len, [.t 22]⟩,
  ⟨some 24, none, .bin .rem tI, [.t 21, .t 23]⟩,
  ⟨some 25, none, .iadr t0, [.t 19, .t 24]⟩,
  ⟨some 26, none, .load t0, [.t 25]⟩,
  ⟨some 27, none, .build t1 [([false], t0), ([true], t0)], [.t 18, .t 26]⟩,
  ⟨some 28, none, .iadr t1, [.t 16, .t 17]⟩,
  ⟨none, none, .store t1, [.t 28, .t 27]⟩])))
 (.reg false [
  ⟨some 29, none, .bin .add tI, [.t 11, .int .i64 1]⟩,
  ⟨some 11, none, .mov, [.t 29]⟩])))))))
 (.seq (.reg false [
  ⟨some 30, none, .mov, [.t 3]⟩,
  ⟨some 2, none, .mov, [.t 30]⟩])
 (.ret))))⟩
def cf_polygon_side_holds : Fn := ⟨2, 34, [.t 4], [.v .bool], none,
 .seq (.reg false [
  ⟨some 2, none, .box 0 t1, [.t 0]⟩,
  ⟨some 3, none, .box 4 t0, [.t 1]⟩,
  ⟨some 4, none, .mov, [.bool false]⟩])
 (.seq (.reg false [
  ⟨some 5, none, .fadr t1 [false], [.t 2]⟩,
  ⟨some 6, none, .load t0, [.t 5]⟩,
  ⟨some 7, none, .fadr t1 [true], [.t 2]⟩,
  ⟨some 8, none, .load t0, [.t 7]⟩,
  ⟨some 9, none, .load t0, [.t 3]⟩,
  ⟨some 10, none, .call 1020 (some 14) [.v tI] false, [.t 6, .t 8, .t 9]⟩,
  ⟨some 11, none, .bin .eql tI, [.t 10, .int .i64 0]⟩,
  ⟨some 12, none, .mov, [.t 11]⟩,
  ⟨some 13, (some (12, true)), .fadr t0 [false], [.t 3]⟩,
  ⟨some 14, (some (12, true)), .load tI, [.t 13]⟩,
  ⟨some 15, (some (12, true)), .fadr t1 [false], [.t 2]⟩,
  ⟨some 16, (some (12, true)), .fadr t0 [false], [.t 15]⟩,
  ⟨some 17, (some (12, true)), .load tI, [.t 16]⟩,
  ⟨some 18, (some (12, true)), .fadr t1 [true], [.t 2]⟩,
  ⟨some 19, (some (12, true)), .fadr t0 [false], [.t 18]⟩,
  ⟨some 20, (some (12, true)), .load tI, [.t 19]⟩,
  ⟨some 21, (some (12, true)), .call 1064 (some 25) [.v .bool] false, [.t 14, .t 17, .t 20]⟩,
  ⟨some 22, none, .pick, [.t 12, .t 21, .bool false]⟩,
  ⟨some 23, none, .mov, [.t 22]⟩,
  ⟨some 24, (some (23, true)), .fadr t0 [true], [.t 3]⟩,
  ⟨some 25, (some (23, true)), .load tI, [.t 24]⟩,
  ⟨some 26, (some (23, true)), .fadr t1 [false], [.t 2]⟩,
  ⟨some 27, (some (23, true)), .fadr t0 [true], [.t 26]⟩,
  ⟨some 28, (some (23, true)), .load tI, [.t 27]⟩,
  ⟨some 29, (some (23, true)), .fadr t1 [true], [.t 2]⟩,
  ⟨some 30, (some (23, true)), .fadr t0 [true], [.t 29]⟩,
  ⟨some 31, (some (23, true)), .load tI, [.t 30]⟩,
  ⟨some 32, (some (23, true)), .call 1108 (some 25) [.v .bool] false, [.t 25, .t 28, .t 31]⟩,
  ⟨some 33, none, .pick, [.t 23, .t 32, .bool false]⟩,
  ⟨some 4, none, .mov, [.t 33]⟩])
 (.ret))⟩
def cf_polygon_side_meets : Fn := ⟨2, 43, [.t 4], [.v .bool], none,
 .seq (.reg false [
  ⟨some 2, none, .box 0 t1, [.t 0]⟩,
  ⟨some 3, none, .box 4 t1, [.t 1]⟩,
  ⟨some 4, none, .mov, [.bool false]⟩])
 (.seq (.reg false [
  ⟨some 5, none, .load t1, [.t 2]⟩,
  ⟨some 6, none, .fadr t1 [false], [.t 3]⟩,
  ⟨some 7, none, .load t0, [.t 6]⟩,
  ⟨some 8, none, .call 1012 (some 23) [.v .bool] false, [.t 5, .t 7]⟩,
  ⟨some 9, none, .mov, [.t 8]⟩,
  ⟨some 10, (some (9, false)), .load t1, [.t 2]⟩,
  ⟨some 11, (some (9, false)), .fadr t1 [true], [.t 3]⟩,
  ⟨some 12, (some (9, false)), .load t0, [.t 11]⟩,
  ⟨some 13, (some (9, false)), .call 1032 (some 23) [.v .bool] false, [.t 10, .t 12]⟩,
  ⟨some 14, none, .pick, [.t 9, .bool true, .t 13]⟩,
  ⟨some 15, none, .mov, [.t 14]⟩,
  ⟨some 16, (some (15, false)), .load t1, [.t 3]⟩,
  ⟨some 17, (some (15, false)), .fadr t1 [false], [.t 2]⟩,
  ⟨some 18, (some (15, false)), .load t0, [.t 17]⟩,
  ⟨some 19, (some (15, false)), .call 1056 (some 23) [.v .bool] false, [.t 16, .t 18]⟩,
  ⟨some 20, none, .pick, [.t 15, .bool true, .t 19]⟩,
  ⟨some 21, none, .mov, [.t 20]⟩,
  ⟨some 22, (some (21, false)), .load t1, [.t 3]⟩,
  ⟨some 23, (some (21, false)), .fadr t1 [true], [.t 2]⟩,
  ⟨some 24, (some (21, false)), .load t0, [.t 23]⟩,
  ⟨some 25, (some (21, false)), .call 1080 (some 23) [.v .bool] false, [.t 22, .t 24]⟩,
  ⟨some 26, none, .pick, [.t 21, .bool true, .t 25]⟩,
  ⟨some 27, none, .mov, [.t 26]⟩,
  ⟨some 28, (some (27, false)), .load t1, [.t 2]⟩,
  ⟨some 29, (some (27, false)), .fadr t1 [false], [.t 3]⟩,
  ⟨some 30, (some (27, false)), .load t0, [.t 29]⟩,
  ⟨some 31, (some (27, false)), .fadr t1 [true], [.t 3]⟩,
  ⟨some 32, (some (27, false)), .load t0, [.t 31]⟩,
  ⟨some 33, (some (27, false)), .call 1112 (some 26) [.v .bool] false, [.t 28, .t 30, .t 32]⟩,
  ⟨some 34, (some (27, false)), .mov, [.t 33]⟩,
  ⟨some 35, (some (34, true)), .load t1, [.t 3]⟩,
  ⟨some 36, (some (34, true)), .fadr t1 [false], [.t 2]⟩,
  ⟨some 37, (some (34, true)), .load t0, [.t 36]⟩,
  ⟨some 38, (some (34, true)), .fadr t1 [true], [.t 2]⟩,
  ⟨some 39, (some (34, true)), .load t0, [.t 38]⟩,
  ⟨some 40, (some (34, true)), .call 1140 (some 26) [.v .bool] false, [.t 35, .t 37, .t 39]⟩,
  ⟨some 41, (some (27, false)), .pick, [.t 34, .t 40, .bool false]⟩,
  ⟨some 42, none, .pick, [.t 27, .bool true, .t 41]⟩,
  ⟨some 4, none, .mov, [.t 42]⟩])
 (.ret))⟩
def cf_polygon_within : Fn := ⟨3, 19, [.t 6], [.v .bool], none,
 .seq (.reg false [
  ⟨some 6, none, .mov, [.bool false]⟩])
 (.seq (.reg false [
  ⟨some 7, none, .mov, [.t 1]⟩,
  ⟨some 8, none, .mov, [.t 2]⟩,
  ⟨some 9, none, .mm false .i64, [.t 7, .t 8]⟩,
  ⟨some 10, none, .mov, [.t 0]⟩,
  ⟨some 11, none, .bin .leq tI, [.t 9, .t 10]⟩,
  ⟨some 12, none, .mov, [.t 11]⟩,
  ⟨some 13, (some (12, true)), .mov, [.t 0]⟩,
  ⟨some 14, (some (12, true)), .mov, [.t 1]⟩,
  ⟨some 15, (some (12, true)), .mov, [.t 2]⟩,
  ⟨some 16, (some (12, true)), .mm true .i64, [.t 14, .t 15]⟩,
  ⟨some 17, (some (12, true)), .bin .leq tI, [.t 13, .t 16]⟩,
  ⟨some 18, none, .pick, [.t 12, .t 17, .bool false]⟩,
  ⟨some 6, none, .mov, [.t 18]⟩])
 (.ret))⟩
def cf_polygon_side_divides : Fn := ⟨3, 35, [.t 6], [.v .bool], none,
 .seq (.reg false [
  ⟨some 3, none, .box 0 t1, [.t 0]⟩,
  ⟨some 4, none, .box 4 t0, [.t 1]⟩,
  ⟨some 5, none, .box 8 t0, [.t 2]⟩,
  ⟨some 6, none, .mov, [.bool false]⟩])
 (.seq (.reg true [
  ⟨some 9, none, .fadr t1 [false], [.t 3]⟩,
  ⟨some 10, none, .load t0, [.t 9]⟩,
  ⟨some 11, none, .fadr t1 [true], [.t 3]⟩,
  ⟨some 12, none, .load t0, [.t 11]⟩,
  ⟨some 13, none, .load t0, [.t 4]⟩,
  ⟨some 14, none, .call 1020 (some 14) [.v tI] false, [.t 10, .t 12, .t 13]⟩,
  ⟨some 15, none, .fadr t1 [false], [.t 3]⟩,
  ⟨some 16, none, .load t0, [.t 15]⟩,
  ⟨some 17, none, .fadr t1 [true], [.t 3]⟩,
  ⟨some 18, none, .load t0, [.t 17]⟩,
  ⟨some 19, none, .load t0, [.t 5]⟩,
  ⟨some 20, none, .call 1044 (some 14) [.v tI] false, [.t 16, .t 18, .t 19]⟩,
  ⟨some 7, none, .mov, [.t 14]⟩,
  ⟨some 8, none, .mov, [.t 20]⟩])
 (.seq (.reg false [
  ⟨some 21, none, .mov, [.t 7]⟩,
  ⟨some 22, none, .bin .lss tI, [.t 21, .int .i64 0]⟩,
  ⟨some 23, none, .mov, [.t 22]⟩,
  ⟨some 24, (some (23, true)), .mov, [.t 8]⟩,
  ⟨some 25, (some (23, true)), .bin .gtr tI, [.t 24, .int .i64 0]⟩,
  ⟨some 26, none, .pick, [.t 23, .t 25, .bool false]⟩,
  ⟨some 27, none, .mov, [.t 26]⟩,
  ⟨some 28, (some (27, false)), .mov, [.t 7]⟩,
  ⟨some 29, (some (27, false)), .bin .gtr tI, [.t 28, .int .i64 0]⟩,
  ⟨some 30, (some (27, false)), .mov, [.t 29]⟩,
  ⟨some 31, (some (30, true)), .mov, [.t 8]⟩,
  ⟨some 32, (some (30, true)), .bin .lss tI, [.t 31, .int .i64 0]⟩,
  ⟨some 33, (some (27, false)), .pick, [.t 30, .t 32, .bool false]⟩,
  ⟨some 34, none, .pick, [.t 27, .bool true, .t 33]⟩,
  ⟨some 6, none, .mov, [.t 34]⟩])
 (.ret)))⟩
def cf_triangle_cross : Fn := ⟨3, 30, [.t 6], [.v tI], none,
 .seq (.reg false [
  ⟨some 3, none, .box 0 t0, [.t 0]⟩,
  ⟨some 4, none, .box 4 t0, [.t 1]⟩,
  ⟨some 5, none, .box 8 t0, [.t 2]⟩,
  ⟨some 6, none, .mov, [.int .i64 0]⟩])
 (.seq (.reg false [
  ⟨some 7, none, .fadr t0 [false], [.t 4]⟩,
  ⟨some 8, none, .load tI, [.t 7]⟩,
  ⟨some 9, none, .fadr t0 [false], [.t 3]⟩,
  ⟨some 10, none, .load tI, [.t 9]⟩,
  ⟨some 11, none, .bin .sub tI, [.t 8, .t 10]⟩,
  ⟨some 12, none, .fadr t0 [true], [.t 5]⟩,
  ⟨some 13, none, .load tI, [.t 12]⟩,
  ⟨some 14, none, .fadr t0 [true], [.t 3]⟩,
  ⟨some 15, none, .load tI, [.t 14]⟩,
  ⟨some 16, none, .bin .sub tI, [.t 13, .t 15]⟩,
  ⟨some 17, none, .bin .mul tI, [.t 11, .t 16]⟩,
  ⟨some 18, none, .fadr t0 [true], [.t 4]⟩,
  ⟨some 19, none, .load tI, [.t 18]⟩,
  ⟨some 20, none, .fadr t0 [true], [.t 3]⟩,
  ⟨some 21, none, .load tI, [.t 20]⟩,
  ⟨some 22, none, .bin .sub tI, [.t 19, .t 21]⟩,
  ⟨some 23, none, .fadr t0 [false], [.t 5]⟩,
  ⟨some 24, none, .load tI, [.t 23]⟩,
  ⟨some 25, none, .fadr t0 [false], [.t 3]⟩,
  ⟨some 26, none, .load tI, [.t 25]⟩,
  ⟨some 27, none, .bin .sub tI, [.t 24, .t 26]⟩,
  ⟨some 28, none, .bin .mul tI, [.t 22, .t 27]⟩,
  ⟨some 29, none, .bin .sub tI, [.t 17, .t 28]⟩,
  ⟨some 6, none, .mov, [.t 29]⟩])
 (.ret))⟩
def cf_triangle_covers : Fn := ⟨4, 28, [.t 8], [.v .bool], none,
 .seq (.reg false [
  ⟨some 4, none, .box 0 t0, [.t 0]⟩,
  ⟨some 5, none, .box 4 t0, [.t 1]⟩,
  ⟨some 6, none, .box 8 t0, [.t 2]⟩,
  ⟨some 7, none, .box 12 t0, [.t 3]⟩,
  ⟨some 8, none, .mov, [.bool false]⟩])
 (.seq (.reg false [
  ⟨some 9, none, .load t0, [.t 4]⟩,
  ⟨some 10, none, .load t0, [.t 5]⟩,
  ⟨some 11, none, .load t0, [.t 7]⟩,
  ⟨some 12, none, .call 1012 (some 27) [.v tI] false, [.t 9, .t 10, .t 11]⟩,
  ⟨some 13, none, .bin .geq tI, [.t 12, .int .i64 0]⟩,
  ⟨some 14, none, .mov, [.t 13]⟩,
  ⟨some 15, (some (14, true)), .load t0, [.t 5]⟩,
  ⟨some 16, (some (14, true)), .load t0, [.t 6]⟩,
  ⟨some 17, (some (14, true)), .load t0, [.t 7]⟩,
  ⟨some 18, (some (14, true)), .call 1036 (some 27) [.v tI] false, [.t 15, .t 16, .t 17]⟩,
  ⟨some 19, (some (14, true)), .bin .geq tI, [.t 18, .int .i64 0]⟩,
  ⟨some 20, none, .pick, [.t 14, .t 19, .bool false]⟩,
  ⟨some 21, none, .mov, [.t 20]⟩,
  ⟨some 22, (some (21, true)), .load t0, [.t 6]⟩,
  ⟨some 23, (some (21, true)), .load t0, [.t 4]⟩,
  ⟨some 24, (some (21, true)), .load t0, [.t 7]⟩,
  ⟨some 25, (some (21, true)), .call 1064 (some 27) [.v tI] false, [.t 22, .t 23, .t 24]⟩,
  ⟨some 26, (some (21, true)), .bin .geq tI, [.t 25, .int .i64 0]⟩,
  ⟨some 27, none, .pick, [.t 21, .t 26, .bool false]⟩,
  ⟨some 8, none, .mov, [.t 27]⟩])
 (.ret))⟩
def cf_triangle_near : Fn := ⟨1, 21, [.t 2], [.v .bool], none,
 .seq (.reg false [
  ⟨some 1, none, .box 0 t0, [.t 0]⟩,
  ⟨some 2, none, .mov, [.bool false]⟩])
 (.seq (.reg false [
  ⟨some 3, none, .fadr t0 [false], [.t 1]⟩,
  ⟨some 4, none, .load tI, [.t 3]⟩,
  ⟨some 5, none, .bin .geq tI, [.t 4, .int .i64 (-1048576)]⟩,
  ⟨some 6, none, .mov, [.t 5]⟩,
  ⟨some 7, (some (6, true)), .fadr t0 [false], [.t 1]⟩,
  ⟨some 8, (some (6, true)), .load tI, [.t 7]⟩,
  ⟨some 9, (some (6, true)), .bin .leq tI, [.t 8, .int .i64 1048576]⟩,
  ⟨some 10, none, .pick, [.t 6, .t 9, .bool false]⟩,
  ⟨some 11, none, .mov, [.t 10]⟩,
  ⟨some 12, (some (11, true)), .fadr t0 [true], [.t 1]⟩,
  ⟨some 13, (some (11, true)), .load tI, [.t 12]⟩,
  ⟨some 14, (some (11, true)), .bin .geq tI, [.t 13, .int .i64 (-1048576)]⟩,
  ⟨some 15, none, .pick, [.t 11, .t 14, .bool false]⟩,
  ⟨some 16, none, .mov, [.t 15]⟩,
  ⟨some 17, (some (16, true)), .fadr t0 [true], [.t 1]⟩,
  ⟨some 18, (some (16, true)), .load tI, [.t 17]⟩,
  ⟨some 19, (some (16, true)), .bin .leq tI, [.t 18, .int .i64 1048576]⟩,
  ⟨some 20, none, .pick, [.t 16, .t 19, .bool false]⟩,
  ⟨some 2, none, .mov, [.t 20]⟩])
 (.ret))⟩
def cf_garmentref11_Cross : Fn := ⟨3, 30, [.t 6], [.v tI], none,
 .seq (.reg false [
  ⟨some 3, none, .box 0 t0, [.t 0]⟩,
  ⟨some 4, none, .box 4 t0, [.t 1]⟩,
  ⟨some 5, none, .box 8 t0, [.t 2]⟩,
  ⟨some 6, none, .mov, [.int .i64 0]⟩])
 (.seq (.reg false [
  ⟨some 7, none, .fadr t0 [false], [.t 4]⟩,
  ⟨some 8, none, .load tI, [.t 7]⟩,
  ⟨some 9, none, .fadr t0 [false], [.t 3]⟩,
  ⟨some 10, none, .load tI, [.t 9]⟩,
  ⟨some 11, none, .bin .sub tI, [.t 8, .t 10]⟩,
  ⟨some 12, none, .fadr t0 [true], [.t 5]⟩,
  ⟨some 13, none, .load tI, [.t 12]⟩,
  ⟨some 14, none, .fadr t0 [true], [.t 3]⟩,
  ⟨some 15, none, .load tI, [.t 14]⟩,
  ⟨some 16, none, .bin .sub tI, [.t 13, .t 15]⟩,
  ⟨some 17, none, .bin .mul tI, [.t 11, .t 16]⟩,
  ⟨some 18, none, .fadr t0 [true], [.t 4]⟩,
  ⟨some 19, none, .load tI, [.t 18]⟩,
  ⟨some 20, none, .fadr t0 [true], [.t 3]⟩,
  ⟨some 21, none, .load tI, [.t 20]⟩,
  ⟨some 22, none, .bin .sub tI, [.t 19, .t 21]⟩,
  ⟨some 23, none, .fadr t0 [false], [.t 5]⟩,
  ⟨some 24, none, .load tI, [.t 23]⟩,
  ⟨some 25, none, .fadr t0 [false], [.t 3]⟩,
  ⟨some 26, none, .load tI, [.t 25]⟩,
  ⟨some 27, none, .bin .sub tI, [.t 24, .t 26]⟩,
  ⟨some 28, none, .bin .mul tI, [.t 22, .t 27]⟩,
  ⟨some 29, none, .bin .sub tI, [.t 17, .t 28]⟩,
  ⟨some 6, none, .mov, [.t 29]⟩])
 (.ret))⟩
def cf_polygon_Move : Fn := ⟨2, 33, [.t 4], [.o t0], none,
 .seq (.reg false [
  ⟨some 3, none, .box 0 t0, [.t 1]⟩,
  ⟨some 4, none, .own0 4 t0, []⟩])
 (.seq (.reg false [
  ⟨some 8, none, .mov, [.t 0]⟩,
  ⟨some 9, none, .len, [.t 8]⟩,
  ⟨some 10, none, .mksl 1008 t0 17592186044416, [.int .i64 0, .t 9]⟩,
  ⟨some 5, none, .mov, [.t 10]⟩])
 (.seq (.seq (.reg false [
  ⟨some 11, none, .mov, [.t 0]⟩,
  ⟨some 12, none, .len, [.t 11]⟩,
  ⟨some 13, none, .mov, [.int .i64 0]⟩])
 (.block 0 (.loop 100000 [3, 5, 11, 12, 13] (.seq (.reg false [
  ⟨some 14, none, .bin .lss tI, [.t 13, .t 12]⟩])
 (.seq (.cond (.t 14) (.skip) (.exit 0))
 (.seq (.block 1 (.seq (.reg false [
  ⟨some 15, none, .iadr t0, [.t 11, .t 13]⟩,
  ⟨some 16, none, .load t0, [.t 15]⟩,
  ⟨some 7, none, .alloc 4008 t0, []⟩,
  ⟨none, none, .store t0, [.t 7, .t 16]⟩])
 (.reg false [
  ⟨some 17, none, .mov, [.t 5]⟩,
  ⟨some 18, none, .fadr t0 [false], [.t 7]⟩,
  ⟨some 19, none, .load tI, [.t 18]⟩,
  ⟨some 20, none, .fadr t0 [false], [.t 3]⟩,
  ⟨some 21, none, .load tI, [.t 20]⟩,
  ⟨some 22, none, .bin .add tI, [.t 19, .t 21]⟩,
  ⟨some 23, none, .fadr t0 [true], [.t 7]⟩,
  ⟨some 24, none, .load tI, [.t 23]⟩,
  ⟨some 25, none, .fadr t0 [true], [.t 3]⟩,
  ⟨some 26, none, .load tI, [.t 25]⟩,
  ⟨some 27, none, .bin .add tI, [.t 24, .t 26]⟩,
  ⟨some 28, none, .build t0 [([false], tI), ([true], tI)], [.t 22, .t 27]⟩,
  ⟨some 29, none, .bsl 5048 t0 1 [0], [.t 28]⟩,
  ⟨some 30, none, .app 5052 t0 8796093022208, [.t 17, .t 29]⟩,
  ⟨some 5, none, .mov, [.t 30]⟩])))
 (.reg false [
  ⟨some 31, none, .bin .add tI, [.t 13, .int .i64 1]⟩,
  ⟨some 13, none, .mov, [.t 31]⟩])))))))
 (.seq (.reg false [
  ⟨some 32, none, .mov, [.t 5]⟩,
  ⟨some 4, none, .mov, [.t 32]⟩])
 (.ret))))⟩
def cf_garmentlaw13_TriangleMoves : Fn := ⟨2, 68, [.t 4], [.v .bool], none,
 .seq (.reg false [
  ⟨some 3, none, .box 0 t0, [.t 1]⟩,
  ⟨some 4, none, .mov, [.bool false]⟩])
 (.seq (.seq (.reg false [
  ⟨some 11, none, .mov, [.t 0]⟩,
  ⟨some 12, none, .call 1004 (some 0) [.v .bool] false, [.t 11]⟩])
 (.cond (.t 12) (.seq (.reg false [
  ⟨some 13, none, .call 2000 (some 1) [.v .bool] false, []⟩,
  ⟨some 4, none, .mov, [.t 13]⟩])
 (.ret)) (.skip)))
 (.seq (.reg false [
  ⟨some 14, none, .mov, [.t 0]⟩,
  ⟨some 15, none, .load t0, [.t 3]⟩,
  ⟨some 16, none, .call 3008 (some 39) [.o t0] false, [.t 14, .t 15]⟩,
  ⟨some 5, none, .mov, [.t 16]⟩])
 (.seq (.seq (.reg false [
  ⟨some 17, none, .mov, [.t 0]⟩,
  ⟨some 18, none, .call 4004 (some 13) [.v tI] false, [.t 17]⟩,
  ⟨some 19, none, .bin .neq tI, [.t 18, .int .i64 0]⟩,
  ⟨some 20, none, .mov, [.t 19]⟩,
  ⟨some 21, (some (20, false)), .mov, [.t 5]⟩,
  ⟨some 22, (some (20, false)), .call 4020 (some 13) [.v tI] false, [.t 21]⟩,
  ⟨some 23, (some (20, false)), .bin .neq tI, [.t 22, .int .i64 0]⟩,
  ⟨some 24, none, .pick, [.t 20, .bool true, .t 23]⟩])
 (.cond (.t 24) (.seq (.reg false [
  ⟨some 25, none, .call 5000 (some 1) [.v .bool] false, []⟩,
  ⟨some 4, none, .mov, [.t 25]⟩])
 (.ret)) (.skip)))
 (.seq (.reg false [
  ⟨some 27, none, .mov, [.t 0]⟩,
  ⟨some 28, none, .call 6004 (some 6) [.o (.sl t0), .v tI] false, [.t 27]⟩,
  ⟨some 26, none, .mov, [.t 28]⟩,
  ⟨some 29, none, .ext 0, [.t 26]⟩,
  ⟨some 30, none, .ext 1, [.t 26]⟩,
  ⟨some 6, none, .mov, [.t 29]⟩,
  ⟨some 7, none, .mov, [.t 30]⟩])
 (.seq (.reg false [
  ⟨some 32, none, .mov, [.t 5]⟩,
  ⟨some 33, none, .call 7004 (some 6) [.o (.sl t0), .v tI] false, [.t 32]⟩,
  ⟨some 31, none, .mov, [.t 33]⟩,
  ⟨some 34, none, .ext 0, [.t 31]⟩,
  ⟨some 35, none, .ext 1, [.t 31]⟩,
  ⟨some 8, none, .mov, [.t 34]⟩,
  ⟨some 9, none, .mov, [.t 35]⟩])
 (.seq (.seq (.reg false [
  ⟨some 36, none, .mov, [.t 7]⟩,
  ⟨some 37, none, .bin .neq tI, [.t 36, .int .i64 0]⟩,
  ⟨some 38, none, .mov, [.t 37]⟩,
  ⟨some 39, (some (38, false)), .mov, [.t 9]⟩,
  ⟨some 40, (some (38, false)), .bin .neq tI, [.t 39, .int .i64 0]⟩,
  ⟨some 41, none, .pick, [.t 38, .bool true, .t 40]⟩,
  ⟨some 42, none, .mov, [.t 41]⟩,
  ⟨some 43, (some (42, false)), .mov, [.t 6]⟩,
  ⟨some 44, (some (42, false)), .len, [.t 43]⟩,
  ⟨some 45, (some (42, false)), .mov, [.t 8]⟩,
  ⟨some 46, (some (42, false)), .len, [.t 45]⟩,
  ⟨some 47, (some (42, false)), .bin .neq tI, [.t 44, .t 46]⟩,
  ⟨some 48, none, .pick, [.t 42, .bool true, .t 47]⟩])
 (.cond (.t 48) (.seq (.reg false [
  ⟨some 4, none, .mov, [.bool false]⟩])
 (.ret)) (.skip)))
 (.seq (.seq (.reg false [
  ⟨some 10, none, .mov, [.int .i64 0]⟩])
 (.block 0 (.loop 100000 [3, 6, 8, 10] (.seq (.seq (.reg false [
  ⟨some 49, none, .mov, [.t 10]⟩,
  ⟨some 50, none, .mov, [.t 6]⟩,
  ⟨some 51, none, .len, [.t 50]⟩,
  ⟨some 52, none, .bin .lss tI, [.t 49, .t 51]⟩])
 (.cond (.t 52) (.skip) (.exit 0)))
 (.seq (.block 1 (.seq (.reg true [
  ⟨some 55, none, .mov, [.t 6]⟩,
  ⟨some 56, none, .mov, [.t 10]⟩,
  ⟨some 57, none, .iadr (.sl t0), [.t 55, .t 56]⟩,
  ⟨some 58, none, .load (.sl t0), [.t 57]⟩,
  ⟨some 59, none, .load t0, [.t 3]⟩,
  ⟨some 60, none, .call 13020 (some 39) [.o t0] false, [.t 58, .t 59]⟩,
  ⟨some 61, none, .mov, [.t 8]⟩,
  ⟨some 62, none, .mov, [.t 10]⟩,
  ⟨some 63, none, .iadr (.sl t0), [.t 61, .t 62]⟩,
  ⟨some 64, none, .load (.sl t0), [.t 63]⟩,
  ⟨some 65, none, .call 13040 (some 7) [.v .bool] false, [.t 60, .t 64]⟩,
  ⟨some 66, none, .not, [.t 65]⟩])
 (.cond (.t 66) (.seq (.reg false [
  ⟨some 4, none, .mov, [.bool false]⟩])
 (.ret)) (.skip))))
 (.reg false [
  ⟨some 53, none, .mov, [.t 10]⟩,
  ⟨some 54, none, .bin .add tI, [.t 53, .int .i64 1]⟩,
  ⟨some 10, none, .mov, [.t 54]⟩]))))))
 (.seq (.reg false [
  ⟨some 67, none, .call 15000 (some 1) [.v .bool] false, []⟩,
  ⟨some 4, none, .mov, [.t 67]⟩])
 (.ret)))))))))⟩
def cf_garmentref11_Check : Fn := ⟨1, 25, [.t 2], [.v tI], none,
 .seq (.reg false [
  ⟨some 2, none, .mov, [.int .i64 0]⟩])
 (.seq (.seq (.reg false [
  ⟨some 4, none, .mov, [.t 0]⟩,
  ⟨some 5, none, .len, [.t 4]⟩,
  ⟨some 6, none, .bin .gtr tI, [.t 5, .int .i64 40]⟩])
 (.cond (.t 6) (.seq (.reg false [
  ⟨some 2, none, .mov, [.int .i64 5]⟩])
 (.ret)) (.skip)))
 (.seq (.seq (.reg false [
  ⟨some 7, none, .mov, [.t 0]⟩,
  ⟨some 8, none, .len, [.t 7]⟩,
  ⟨some 9, none, .bin .lss tI, [.t 8, .int .i64 3]⟩])
 (.cond (.t 9) (.seq (.reg false [
  ⟨some 2, none, .mov, [.int .i64 11]⟩])
 (.ret)) (.skip)))
 (.seq (.seq (.reg false [
  ⟨some 3, none, .mov, [.int .i64 0]⟩])
 (.block 0 (.loop 100000 [0, 3] (.seq (.seq (.reg false [
  ⟨some 10, none, .mov, [.t 3]⟩,
  ⟨some 11, none, .mov, [.t 0]⟩,
  ⟨some 12, none, .len, [.t 11]⟩,
  ⟨some 13, none, .bin .lss tI, [.t 10, .t 12]⟩])
 (.cond (.t 13) (.skip) (.exit 0)))
 (.seq (.block 1 (.seq (.reg false [
  ⟨some 16, none, .mov, [.t 0]⟩,
  ⟨some 17, none, .mov, [.t 3]⟩,
  ⟨some 18, none, .iadr t0, [.t 16, .t 17]⟩,
  ⟨some 19, none, .load t0, [.t 18]⟩,
  ⟨some 20, none, .call 8016 (some 68) [.v .bool] false, [.t 19, .int .i64 1048576]⟩,
  ⟨some 21, none, .not, [.t 20]⟩])
 (.cond (.t 21) (.seq (.reg false [
  ⟨some 2, none, .mov, [.int .i64 3]⟩])
 (.ret)) (.skip))))
 (.reg false [
  ⟨some 14, none, .mov, [.t 3]⟩,
  ⟨some 15, none, .bin .add tI, [.t 14, .int .i64 1]⟩,
  ⟨some 3, none, .mov, [.t 15]⟩]))))))
 (.seq (.seq (.reg false [
  ⟨some 22, none, .mov, [.t 0]⟩,
  ⟨some 23, none, .call 10004 (some 69) [.v .bool] false, [.t 22]⟩,
  ⟨some 24, none, .not, [.t 23]⟩])
 (.cond (.t 24) (.seq (.reg false [
  ⟨some 2, none, .mov, [.int .i64 11]⟩])
 (.ret)) (.skip)))
 (.seq (.reg false [
  ⟨some 2, none, .mov, [.int .i64 0]⟩])
 (.ret))))))⟩
def cf_garmentref11_Within : Fn := ⟨2, 29, [.t 4], [.v .bool], none,
 .seq (.reg false [
  ⟨some 2, none, .box 0 t0, [.t 0]⟩,
  ⟨some 4, none, .mov, [.bool false]⟩])
 (.seq (.reg false [
  ⟨some 5, none, .fadr t0 [false], [.t 2]⟩,
  ⟨some 6, none, .load tI, [.t 5]⟩,
  ⟨some 7, none, .mov, [.t 1]⟩,
  ⟨some 8, none, .neg .i64, [.t 7]⟩,
  ⟨some 9, none, .bin .geq tI, [.t 6, .t 8]⟩,
  ⟨some 10, none, .mov, [.t 9]⟩,
  ⟨some 11, (some (10, true)), .fadr t0 [false], [.t 2]⟩,
  ⟨some 12, (some (10, true)), .load tI, [.t 11]⟩,
  ⟨some 13, (some (10, true)), .mov, [.t 1]⟩,
  ⟨some 14, (some (10, true)), .bin .leq tI, [.t 12, .t 13]⟩,
  ⟨some 15, none, .pick, [.t 10, .t 14, .bool false]⟩,
  ⟨some 16, none, .mov, [.t 15]⟩,
  ⟨some 17, (some (16, true)), .fadr t0 [true], [.t 2]⟩,
  ⟨some 18, (some (16, true)), .load tI, [.t 17]⟩,
  ⟨some 19, (some (16, true)), .mov, [.t 1]⟩,
  ⟨some 20, (some (16, true)), .neg .i64, [.t 19]⟩,
  ⟨some 21, (some (16, true)), .bin .geq tI, [.t 18, .t 20]⟩,
  ⟨some 22, none, .pick, [.t 16, .t 21, .bool false]⟩,
  ⟨some 23, none, .mov, [.t 22]⟩,
  ⟨some 24, (some (23, true)), .fadr t0 [true], [.t 2]⟩,
  ⟨some 25, (some (23, true)), .load tI, [.t 24]⟩,
  ⟨some 26, (some (23, true)), .mov, [.t 1]⟩,
  ⟨some 27, (some (23, true)), .bin .leq tI, [.t 25, .t 26]⟩,
  ⟨some 28, none, .pick, [.t 23, .t 27, .bool false]⟩,
  ⟨some 4, none, .mov, [.t 28]⟩])
 (.ret))⟩
def cf_garmentref11_simple : Fn := ⟨1, 78, [.t 2], [.v .bool], none,
 .seq (.reg false [
  ⟨some 2, none, .mov, [.bool false]⟩])
 (.seq (.reg false [
  ⟨some 9, none, .mov, [.t 0]⟩,
  ⟨some 10, none, .len, [.t 9]⟩,
  ⟨some 3, none, .mov, [.t 10]⟩])
 (.seq (.seq (.reg false [
  ⟨some 4, none, .mov, [.int .i64 0]⟩])
 (.block 0 (.loop 100000 [0, 3, 4] (.seq (.seq (.reg false [
  ⟨some 11, none, .mov, [.t 4]⟩,
  ⟨some 12, none, .mov, [.t 3]⟩,
  ⟨some 13, none, .bin .lss tI, [.t 11, .t 12]⟩])
 (.cond (.t 13) (.skip) (.exit 0)))
 (.seq (.block 1 (.seq (.reg true [
  ⟨some 16, none, .mov, [.t 0]⟩,
  ⟨some 17, none, .mov, [.t 4]⟩,
  ⟨some 18, none, .iadr t0, [.t 16, .t 17]⟩,
  ⟨some 19, none, .load t0, [.t 18]⟩,
  ⟨some 20, none, .mov, [.t 0]⟩,
  ⟨some 21, none, .mov, [.t 4]⟩,
  ⟨some 22, none, .bin .add tI, [.t 21, .int .i64 1]⟩,
  ⟨some 23, none, .mov, [.t 3]⟩,
  ⟨some 24, none, .bin .rem tI, [.t 22, .t 23]⟩,
  ⟨some 25, none, .iadr t0, [.t 20, .t 24]⟩,
  ⟨some 26, none, .loadi t0, [.t 25]⟩,
  ⟨some 5, none, .alloc 5044 t0, []⟩,
  ⟨some 6, none, .alloc 5048 t0, []⟩,
  ⟨none, none, .store t0, [.t 5, .t 19]⟩,
  ⟨none, none, .store t0, [.t 6, .t 26]⟩])
 (.seq (.reg false [
  ⟨some 27, none, .mov, [.t 0]⟩,
  ⟨some 28, none, .mov, [.t 4]⟩,
  ⟨some 29, none, .bin .add tI, [.t 28, .int .i64 2]⟩,
  ⟨some 30, none, .mov, [.t 3]⟩,
  ⟨some 31, none, .bin .rem tI, [.t 29, .t 30]⟩,
  ⟨some 32, none, .iadr t0, [.t 27, .t 31]⟩,
  ⟨some 33, none, .load t0, [.t 32]⟩,
  ⟨some 7, none, .alloc 6028 t0, []⟩,
  ⟨none, none, .store t0, [.t 7, .t 33]⟩])
 (.seq (.seq (.reg false [
  ⟨some 34, none, .load t0, [.t 5]⟩,
  ⟨some 35, none, .load t0, [.t 6]⟩,
  ⟨some 36, none, .bin .eql t0, [.t 34, .t 35]⟩,
  ⟨some 37, none, .mov, [.t 36]⟩,
  ⟨some 38, (some (37, false)), .load t0, [.t 5]⟩,
  ⟨some 39, (some (37, false)), .load t0, [.t 6]⟩,
  ⟨some 40, (some (37, false)), .load t0, [.t 7]⟩,
  ⟨some 41, (some (37, false)), .call 7028 (some 70) [.v .bool] false, [.t 38, .t 39, .t 40]⟩,
  ⟨some 42, none, .pick, [.t 37, .bool true, .t 41]⟩,
  ⟨some 43, none, .mov, [.t 42]⟩,
  ⟨some 44, (some (43, false)), .load t0, [.t 6]⟩,
  ⟨some 45, (some (43, false)), .load t0, [.t 7]⟩,
  ⟨some 46, (some (43, false)), .load t0, [.t 5]⟩,
  ⟨some 47, (some (43, false)), .call 7052 (some 70) [.v .bool] false, [.t 44, .t 45, .t 46]⟩,
  ⟨some 48, none, .pick, [.t 43, .bool true, .t 47]⟩])
 (.cond (.t 48) (.seq (.reg false [
  ⟨some 2, none, .mov, [.bool false]⟩])
 (.ret)) (.skip)))
 (.seq (.reg false [
  ⟨some 49, none, .mov, [.t 4]⟩,
  ⟨some 50, none, .bin .add tI, [.t 49, .int .i64 2]⟩,
  ⟨some 8, none, .mov, [.t 50]⟩])
 (.block 2 (.loop 200000 [0, 3, 4, 5, 6, 8] (.seq (.seq (.reg false [
  ⟨some 51, none, .mov, [.t 8]⟩,
  ⟨some 52, none, .mov, [.t 3]⟩,
  ⟨some 53, none, .bin .lss tI, [.t 51, .t 52]⟩])
 (.cond (.t 53) (.skip) (.exit 2)))
 (.seq (.block 3 (.seq (.reg true [
  ⟨some 56, none, .mov, [.t 8]⟩,
  ⟨some 57, none, .bin .add tI, [.t 56, .int .i64 1]⟩,
  ⟨some 58, none, .mov, [.t 3]⟩,
  ⟨some 59, none, .bin .rem tI, [.t 57, .t 58]⟩,
  ⟨some 60, none, .mov, [.t 4]⟩,
  ⟨some 61, none, .bin .neq tI, [.t 59, .t 60]⟩,
  ⟨some 62, none, .mov, [.t 61]⟩,
  ⟨some 63, (some (62, true)), .load t0, [.t 5]⟩,
  ⟨some 64, (some (62, true)), .load t0, [.t 6]⟩,
  ⟨some 65, (some (62, true)), .mov, [.t 0]⟩,
  ⟨some 66, (some (62, true)), .mov, [.t 8]⟩,
  ⟨some 67, (some (62, true)), .iadr t0, [.t 65, .t 66]⟩,
  ⟨some 68, (some (62, true)), .load t0, [.t 67]⟩,
  ⟨some 69, (some (62, true)), .mov, [.t 0]⟩,
  ⟨some 70, (some (62, true)), .mov, [.t 8]⟩,
  ⟨some 71, (some (62, true)), .bin .add tI, [.t 70, .int .i64 1]⟩,
  ⟨some 72, (some (62, true)), .mov, [.t 3]⟩,
  ⟨some 73, (some (62, true)), .bin .rem tI, [.t 71, .t 72]⟩,
  ⟨some 74, (some (62, true)), .iadr t0, [.t 69, .t 73]⟩,
  ⟨some 75, (some (62, true)), .load t0, [.t 74]⟩,
  ⟨some 76, (some (62, true)), .call 12080 (some 71) [.v .bool] false, [.t 63, .t 64, .t 68, .t 75]⟩,
  ⟨some 77, none, .pick, [.t 62, .t 76, .bool false]⟩])
 (.cond (.t 77) (.seq (.reg false [
  ⟨some 2, none, .mov, [.bool false]⟩])
 (.ret)) (.skip))))
 (.reg false [
  ⟨some 54, none, .mov, [.t 8]⟩,
  ⟨some 55, none, .bin .add tI, [.t 54, .int .i64 1]⟩,
  ⟨some 8, none, .mov, [.t 55]⟩]))))))))))
 (.reg false [
  ⟨some 14, none, .mov, [.t 4]⟩,
  ⟨some 15, none, .bin .add tI, [.t 14, .int .i64 1]⟩,
  ⟨some 4, none, .mov, [.t 15]⟩]))))))
 (.seq (.reg false [
  ⟨some 2, none, .mov, [.bool true]⟩])
 (.ret))))⟩
def cf_garmentref11_Between : Fn := ⟨3, 52, [.t 6], [.v .bool], none,
 .seq (.reg false [
  ⟨some 3, none, .box 0 t0, [.t 0]⟩,
  ⟨some 4, none, .box 4 t0, [.t 1]⟩,
  ⟨some 5, none, .box 8 t0, [.t 2]⟩,
  ⟨some 6, none, .mov, [.bool false]⟩])
 (.seq (.reg false [
  ⟨some 7, none, .load t0, [.t 3]⟩,
  ⟨some 8, none, .load t0, [.t 4]⟩,
  ⟨some 9, none, .load t0, [.t 5]⟩,
  ⟨some 10, none, .call 1012 (some 33) [.v tI] false, [.t 7, .t 8, .t 9]⟩,
  ⟨some 11, none, .bin .eql tI, [.t 10, .int .i64 0]⟩,
  ⟨some 12, none, .mov, [.t 11]⟩,
  ⟨some 13, (some (12, true)), .fadr t0 [false], [.t 3]⟩,
  ⟨some 14, (some (12, true)), .load tI, [.t 13]⟩,
  ⟨some 15, (some (12, true)), .fadr t0 [false], [.t 4]⟩,
  ⟨some 16, (some (12, true)), .load tI, [.t 15]⟩,
  ⟨some 17, (some (12, true)), .mm false .i64, [.t 14, .t 16]⟩,
  ⟨some 18, (some (12, true)), .fadr t0 [false], [.t 5]⟩,
  ⟨some 19, (some (12, true)), .load tI, [.t 18]⟩,
  ⟨some 20, (some (12, true)), .bin .leq tI, [.t 17, .t 19]⟩,
  ⟨some 21, none, .pick, [.t 12, .t 20, .bool false]⟩,
  ⟨some 22, none, .mov, [.t 21]⟩,
  ⟨some 23, (some (22, true)), .fadr t0 [false], [.t 5]⟩,
  ⟨some 24, (some (22, true)), .load tI, [.t 23]⟩,
  ⟨some 25, (some (22, true)), .fadr t0 [false], [.t 3]⟩,
  ⟨some 26, (some (22, true)), .load tI, [.t 25]⟩,
  ⟨some 27, (some (22, true)), .fadr t0 [false], [.t 4]⟩,
  ⟨some 28, (some (22, true)), .load tI, [.t 27]⟩,
  ⟨some 29, (some (22, true)), .mm true .i64, [.t 26, .t 28]⟩,
  ⟨some 30, (some (22, true)), .bin .leq tI, [.t 24, .t 29]⟩,
  ⟨some 31, none, .pick, [.t 22, .t 30, .bool false]⟩,
  ⟨some 32, none, .mov, [.t 31]⟩,
  ⟨some 33, (some (32, true)), .fadr t0 [true], [.t 3]⟩,
  ⟨some 34, (some (32, true)), .load tI, [.t 33]⟩,
  ⟨some 35, (some (32, true)), .fadr t0 [true], [.t 4]⟩,
  ⟨some 36, (some (32, true)), .load tI, [.t 35]⟩,
  ⟨some 37, (some (32, true)), .mm false .i64, [.t 34, .t 36]⟩,
  ⟨some 38, (some (32, true)), .fadr t0 [true], [.t 5]⟩,
  ⟨some 39, (some (32, true)), .load tI, [.t 38]⟩,
  ⟨some 40, (some (32, true)), .bin .leq tI, [.t 37, .t 39]⟩,
  ⟨some 41, none, .pick, [.t 32, .t 40, .bool false]⟩,
  ⟨some 42, none, .mov, [.t 41]⟩,
  ⟨some 43, (some (42, true)), .fadr t0 [true], [.t 5]⟩,
  ⟨some 44, (some (42, true)), .load tI, [.t 43]⟩,
  ⟨some 45, (some (42, true)), .fadr t0 [true], [.t 3]⟩,
  ⟨some 46, (some (42, true)), .load tI, [.t 45]⟩,
  ⟨some 47, (some (42, true)), .fadr t0 [true], [.t 4]⟩,
  ⟨some 48, (some (42, true)), .load tI, [.t 47]⟩,
  ⟨some 49, (some (42, true)), .mm true .i64, [.t 46, .t 48]⟩,
  ⟨some 50, (some (42, true)), .bin .leq tI, [.t 44, .t 49]⟩,
  ⟨some 51, none, .pick, [.t 42, .t 50, .bool false]⟩,
  ⟨some 6, none, .mov, [.t 51]⟩])
 (.ret))⟩
def cf_garmentref11_meet : Fn := ⟨4, 57, [.t 8], [.v .bool], none,
 .seq (.reg false [
  ⟨some 4, none, .box 0 t0, [.t 0]⟩,
  ⟨some 5, none, .box 4 t0, [.t 1]⟩,
  ⟨some 6, none, .box 8 t0, [.t 2]⟩,
  ⟨some 7, none, .box 12 t0, [.t 3]⟩,
  ⟨some 8, none, .mov, [.bool false]⟩])
 (.seq (.seq (.reg false [
  ⟨some 9, none, .load t0, [.t 4]⟩,
  ⟨some 10, none, .load t0, [.t 5]⟩,
  ⟨some 11, none, .load t0, [.t 6]⟩,
  ⟨some 12, none, .call 1012 (some 70) [.v .bool] false, [.t 9, .t 10, .t 11]⟩,
  ⟨some 13, none, .mov, [.t 12]⟩,
  ⟨some 14, (some (13, false)), .load t0, [.t 4]⟩,
  ⟨some 15, (some (13, false)), .load t0, [.t 5]⟩,
  ⟨some 16, (some (13, false)), .load t0, [.t 7]⟩,
  ⟨some 17, (some (13, false)), .call 1032 (some 70) [.v .bool] false, [.t 14, .t 15, .t 16]⟩,
  ⟨some 18, none, .pick, [.t 13, .bool true, .t 17]⟩,
  ⟨some 19, none, .mov, [.t 18]⟩,
  ⟨some 20, (some (19, false)), .load t0, [.t 6]⟩,
  ⟨some 21, (some (19, false)), .load t0, [.t 7]⟩,
  ⟨some 22, (some (19, false)), .load t0, [.t 4]⟩,
  ⟨some 23, (some (19, false)), .call 1056 (some 70) [.v .bool] false, [.t 20, .t 21, .t 22]⟩,
  ⟨some 24, none, .pick, [.t 19, .bool true, .t 23]⟩,
  ⟨some 25, none, .mov, [.t 24]⟩,
  ⟨some 26, (some (25, false)), .load t0, [.t 6]⟩,
  ⟨some 27, (some (25, false)), .load t0, [.t 7]⟩,
  ⟨some 28, (some (25, false)), .load t0, [.t 5]⟩,
  ⟨some 29, (some (25, false)), .call 1080 (some 70) [.v .bool] false, [.t 26, .t 27, .t 28]⟩,
  ⟨some 30, none, .pick, [.t 25, .bool true, .t 29]⟩])
 (.cond (.t 30) (.seq (.reg false [
  ⟨some 8, none, .mov, [.bool true]⟩])
 (.ret)) (.skip)))
 (.seq (.reg true [
  ⟨some 31, none, .load t0, [.t 4]⟩,
  ⟨some 32, none, .load t0, [.t 5]⟩,
  ⟨some 33, none, .load t0, [.t 6]⟩,
  ⟨some 34, none, .call 3012 (some 33) [.v tI] false, [.t 31, .t 32, .t 33]⟩,
  ⟨some 35, none, .call 3016 (some 72) [.v tI] false, [.t 34]⟩,
  ⟨some 36, none, .load t0, [.t 4]⟩,
  ⟨some 37, none, .load t0, [.t 5]⟩,
  ⟨some 38, none, .load t0, [.t 7]⟩,
  ⟨some 39, none, .call 3032 (some 33) [.v tI] false, [.t 36, .t 37, .t 38]⟩,
  ⟨some 40, none, .call 3036 (some 72) [.v tI] false, [.t 39]⟩,
  ⟨some 41, none, .bin .mul tI, [.t 35, .t 40]⟩,
  ⟨some 42, none, .bin .lss tI, [.t 41, .int .i64 0]⟩,
  ⟨some 43, none, .mov, [.t 42]⟩,
  ⟨some 44, (some (43, true)), .load t0, [.t 6]⟩,
  ⟨some 45, (some (43, true)), .load t0, [.t 7]⟩,
  ⟨some 46, (some (43, true)), .load t0, [.t 4]⟩,
  ⟨some 47, (some (43, true)), .call 3064 (some 33) [.v tI] false, [.t 44, .t 45, .t 46]⟩,
  ⟨some 48, (some (43, true)), .call 3068 (some 72) [.v tI] false, [.t 47]⟩,
  ⟨some 49, (some (43, true)), .load t0, [.t 6]⟩,
  ⟨some 50, (some (43, true)), .load t0, [.t 7]⟩,
  ⟨some 51, (some (43, true)), .load t0, [.t 5]⟩,
  ⟨some 52, (some (43, true)), .call 3084 (some 33) [.v tI] false, [.t 49, .t 50, .t 51]⟩,
  ⟨some 53, (some (43, true)), .call 3088 (some 72) [.v tI] false, [.t 52]⟩,
  ⟨some 54, (some (43, true)), .bin .mul tI, [.t 48, .t 53]⟩,
  ⟨some 55, (some (43, true)), .bin .lss tI, [.t 54, .int .i64 0]⟩,
  ⟨some 56, none, .pick, [.t 43, .t 55, .bool false]⟩,
  ⟨some 8, none, .mov, [.t 56]⟩])
 (.ret)))⟩
def cf_garmentref11_sign : Fn := ⟨1, 9, [.t 2], [.v tI], none,
 .seq (.reg false [
  ⟨some 2, none, .mov, [.int .i64 0]⟩])
 (.seq (.block 0 (.seq (.reg false [
  ⟨some 4, none, .mov, [.t 0]⟩,
  ⟨some 5, none, .bin .gtr tI, [.t 4, .int .i64 0]⟩,
  ⟨some 3, none, .mov, [.t 5]⟩])
 (.cond (.t 3) (.seq (.reg false [
  ⟨some 2, none, .mov, [.int .i64 1]⟩])
 (.ret)) (.seq (.reg false [
  ⟨some 7, none, .mov, [.t 0]⟩,
  ⟨some 8, none, .bin .lss tI, [.t 7, .int .i64 0]⟩,
  ⟨some 6, none, .mov, [.t 8]⟩])
 (.cond (.t 6) (.seq (.reg false [
  ⟨some 2, none, .mov, [.int .i64 (-1)]⟩])
 (.ret)) (.skip))))))
 (.seq (.reg false [
  ⟨some 2, none, .mov, [.int .i64 0]⟩])
 (.ret)))⟩
end Pm
end
section
/- The table of the functions. -/
namespace Pm
open Go
set_option maxRecDepth 20000
set_option linter.unusedVariables false
def G : Nat → Option Fn := fun n =>
 cond (Nat.beq n 0) (some cf_garmentlaw13_many) <|
 cond (Nat.beq n 1) (some cf_garmentlaw13_alive) <|
 cond (Nat.beq n 2) (some cf_triangle_Holds) <|
 cond (Nat.beq n 5) (some cf_garmentlaw13_bracket) <|
 cond (Nat.beq n 6) (some cf_triangle_Split) <|
 cond (Nat.beq n 7) (some cf_garmentref11_Same) <|
 cond (Nat.beq n 8) (some cf_polygon_Normal) <|
 cond (Nat.beq n 9) (some cf_triangle_Split_1) <|
 cond (Nat.beq n 10) (some cf_triangle_Split_2) <|
 cond (Nat.beq n 11) (some cf_triangle_find) <|
 cond (Nat.beq n 12) (some cf_triangle_without) <|
 cond (Nat.beq n 13) (some cf_polygon_Check) <|
 cond (Nat.beq n 14) (some cf_polygon_turn) <|
 cond (Nat.beq n 15) (some cf_polygon_area) <|
 cond (Nat.beq n 16) (some cf_slices_Reverse_api_Spot_api_Spot) <|
 cond (Nat.beq n 17) (some cf_slices_MinFunc_api_Spot_api_Spot) <|
 cond (Nat.beq n 18) (some cf_polygon_order) <|
 cond (Nat.beq n 19) (some cf_slices_Index_api_Spot_api_Spot) <|
 cond (Nat.beq n 20) (some cf_polygon_inside) <|
 cond (Nat.beq n 21) (some cf_polygon_simple) <|
 cond (Nat.beq n 22) (some cf_polygon_sides) <|
 cond (Nat.beq n 23) (some cf_polygon_side_holds) <|
 cond (Nat.beq n 24) (some cf_polygon_side_meets) <|
 cond (Nat.beq n 25) (some cf_polygon_within) <|
 cond (Nat.beq n 26) (some cf_polygon_side_divides) <|
 cond (Nat.beq n 27) (some cf_triangle_cross) <|
 cond (Nat.beq n 28) (some cf_triangle_covers) <|
 cond (Nat.beq n 29) (some cf_triangle_near) <|
 cond (Nat.beq n 33) (some cf_garmentref11_Cross) <|
 cond (Nat.beq n 39) (some cf_polygon_Move) <|
 cond (Nat.beq n 40) (some cf_garmentlaw13_TriangleMoves) <|
 cond (Nat.beq n 67) (some cf_garmentref11_Check) <|
 cond (Nat.beq n 68) (some cf_garmentref11_Within) <|
 cond (Nat.beq n 69) (some cf_garmentref11_simple) <|
 cond (Nat.beq n 70) (some cf_garmentref11_Between) <|
 cond (Nat.beq n 71) (some cf_garmentref11_meet) <|
 cond (Nat.beq n 72) (some cf_garmentref11_sign) <| none
noncomputable def CG : CallF := limC G
end Pm
end
