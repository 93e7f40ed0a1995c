/- Parts of the proof of RecutShade, joined: Cf0, Cf. -/
import Derived.Test.YtjkdnhlklpmjhaaRecutShadeQ0
set_option linter.unusedVariables false
set_option linter.unusedSimpArgs false
section
/- The functions that the law reaches, in the plain form: written by a program of mine out of the translation. -/
namespace Pm
open Go
set_option maxRecDepth 20000
set_option linter.unusedVariables false
def cf_polygon_Check : Fn := ⟨1, 31, [.t 2], [.v tI], none,
 .seq (.reg false [
  ⟨some 2, none, .mov, [.int .i64 0]⟩])
 (.seq (.seq (.reg false [
  ⟨some 5, none, .mov, [.t 0]⟩,
  ⟨some 6, none, .len, [.t 5]⟩,
  ⟨some 7, none, .bin .gtr tI, [.t 6, .int .i64 40]⟩])
 (.cond (.t 7) (.seq (.reg false [
  ⟨some 2, none, .mov, [.int .i64 5]⟩])
 (.ret)) (.skip)))
 (.seq (.seq (.reg false [
  ⟨some 8, none, .mov, [.t 0]⟩,
  ⟨some 9, none, .len, [.t 8]⟩,
  ⟨some 10, none, .bin .lss tI, [.t 9, .int .i64 3]⟩])
 (.cond (.t 10) (.seq (.reg false [
  ⟨some 2, none, .mov, [.int .i64 11]⟩])
 (.ret)) (.skip)))
 (.seq (.seq (.reg false [
  ⟨some 11, none, .mov, [.t 0]⟩,
  ⟨some 12, none, .len, [.t 11]⟩,
  ⟨some 13, none, .mov, [.int .i64 0]⟩])
 (.block 0 (.loop 100000 [0, 11, 12, 13] (.seq (.reg false [
  ⟨some 14, none, .bin .lss tI, [.t 13, .t 12]⟩])
 (.seq (.cond (.t 14) (.skip) (.exit 0))
 (.seq (.block 1 (.seq (.reg false [
  ⟨some 15, none, .iadr t0, [.t 11, .t 13]⟩,
  ⟨some 16, none, .load t0, [.t 15]⟩,
  ⟨some 4, none, .alloc 7008 t0, []⟩,
  ⟨none, none, .store t0, [.t 4, .t 16]⟩])
 (.seq (.reg false [
  ⟨some 17, none, .fadr t0 [false], [.t 4]⟩,
  ⟨some 18, none, .load tI, [.t 17]⟩,
  ⟨some 19, none, .call 8008 (some 20) [.v .bool] false, [.t 18]⟩,
  ⟨some 20, none, .not, [.t 19]⟩,
  ⟨some 21, none, .mov, [.t 20]⟩,
  ⟨some 22, (some (21, false)), .fadr t0 [true], [.t 4]⟩,
  ⟨some 23, (some (21, false)), .load tI, [.t 22]⟩,
  ⟨some 24, (some (21, false)), .call 8028 (some 20) [.v .bool] false, [.t 23]⟩,
  ⟨some 25, (some (21, false)), .not, [.t 24]⟩,
  ⟨some 26, none, .pick, [.t 21, .bool true, .t 25]⟩])
 (.cond (.t 26) (.seq (.reg false [
  ⟨some 2, none, .mov, [.int .i64 3]⟩])
 (.ret)) (.skip)))))
 (.reg false [
  ⟨some 27, none, .bin .add tI, [.t 13, .int .i64 1]⟩,
  ⟨some 13, none, .mov, [.t 27]⟩])))))))
 (.seq (.seq (.reg false [
  ⟨some 28, none, .mov, [.t 0]⟩,
  ⟨some 29, none, .call 11004 (some 21) [.v .bool] false, [.t 28]⟩,
  ⟨some 30, none, .not, [.t 29]⟩])
 (.cond (.t 30) (.seq (.reg false [
  ⟨some 2, none, .mov, [.int .i64 11]⟩])
 (.ret)) (.skip)))
 (.seq (.reg false [
  ⟨some 2, none, .mov, [.int .i64 0]⟩])
 (.ret))))))⟩
def cf_polygon_turn : Fn := ⟨3, 30, [.t 6], [.v tI], none,
 .seq (.reg false [
  ⟨some 3, none, .box 0 t0, [.t 0]⟩,
  ⟨some 4, none, .box 4 t0, [.t 1]⟩,
  ⟨some 5, none, .box 8 t0, [.t 2]⟩,
  ⟨some 6, none, .mov, [.int .i64 0]⟩])
 (.seq (.reg false [
  ⟨some 7, none, .fadr t0 [false], [.t 4]⟩,
  ⟨some 8, none, .load tI, [.t 7]⟩,
  ⟨some 9, none, .fadr t0 [false], [.t 3]⟩,
  ⟨some 10, none, .load tI, [.t 9]⟩,
  ⟨some 11, none, .bin .sub tI, [.t 8, .t 10]⟩,
  ⟨some 12, none, .fadr t0 [true], [.t 5]⟩,
  ⟨some 13, none, .load tI, [.t 12]⟩,
  ⟨some 14, none, .fadr t0 [true], [.t 4]⟩,
  ⟨some 15, none, .load tI, [.t 14]⟩,
  ⟨some 16, none, .bin .sub tI, [.t 13, .t 15]⟩,
  ⟨some 17, none, .bin .mul tI, [.t 11, .t 16]⟩,
  ⟨some 18, none, .fadr t0 [true], [.t 4]⟩,
  ⟨some 19, none, .load tI, [.t 18]⟩,
  ⟨some 20, none, .fadr t0 [true], [.t 3]⟩,
  ⟨some 21, none, .load tI, [.t 20]⟩,
  ⟨some 22, none, .bin .sub tI, [.t 19, .t 21]⟩,
  ⟨some 23, none, .fadr t0 [false], [.t 5]⟩,
  ⟨some 24, none, .load tI, [.t 23]⟩,
  ⟨some 25, none, .fadr t0 [false], [.t 4]⟩,
  ⟨some 26, none, .load tI, [.t 25]⟩,
  ⟨some 27, none, .bin .sub tI, [.t 24, .t 26]⟩,
  ⟨some 28, none, .bin .mul tI, [.t 22, .t 27]⟩,
  ⟨some 29, none, .bin .sub tI, [.t 17, .t 28]⟩,
  ⟨some 6, none, .mov, [.t 29]⟩])
 (.ret))⟩
def cf_polygon_inside : Fn := ⟨1, 9, [.t 2], [.v .bool], none,
 .seq (.reg false [
  ⟨some 2, none, .mov, [.bool false]⟩])
 (.seq (.reg false [
  ⟨some 3, none, .mov, [.t 0]⟩,
  ⟨some 4, none, .bin .geq tI, [.t 3, .int .i64 (-1048576)]⟩,
  ⟨some 5, none, .mov, [.t 4]⟩,
  ⟨some 6, (some (5, true)), .mov, [.t 0]⟩,
  ⟨some 7, (some (5, true)), .bin .leq tI, [.t 6, .int .i64 1048576]⟩,
  ⟨some 8, none, .pick, [.t 5, .t 7, .bool false]⟩,
  ⟨some 2, none, .mov, [.t 8]⟩])
 (.ret))⟩
def cf_polygon_simple : Fn := ⟨1, 64, [.t 2], [.v .bool], none,
 .seq (.reg false [
  ⟨some 2, none, .mov, [.bool false]⟩])
 (.seq (.reg false [
  ⟨some 8, none, .mov, [.t 0]⟩,
  ⟨some 9, none, .call 1004 (some 22) [.o t1] false, [.t 8]⟩,
  ⟨some 3, none, .mov, [.t 9]⟩])
 (.seq (.seq (.reg false [
  ⟨some 10, none, .mov, [.t 3]⟩,
  ⟨some 11, none, .len, [.t 10]⟩,
  ⟨some 12, none, .mov, [.int .i64 0]⟩])
 (.block 0 (.loop 100000 [3, 10, 11, 12] (.seq (.reg false [
  ⟨some 13, none, .bin .lss tI, [.t 12, .t 11]⟩])
 (.seq (.cond (.t 13) (.skip) (.exit 0))
 (.seq (.block 1 (.seq (.reg false [
  ⟨some 14, none, .mov, [.t 12]⟩,
  ⟨some 15, none, .iadr t1, [.t 10, .t 12]⟩,
  ⟨some 16, none, .load t1, [.t 15]⟩,
  ⟨some 5, none, .alloc 4012 t1, []⟩,
  ⟨some 4, none, .mov, [.t 14]⟩,
  ⟨none, none, .store t1, [.t 5, .t 16]⟩])
 (.seq (.seq (.reg false [
  ⟨some 17, none, .fadr t1 [false], [.t 5]⟩,
  ⟨some 18, none, .load t0, [.t 17]⟩,
  ⟨some 19, none, .fadr t1 [true], [.t 5]⟩,
  ⟨some 20, none, .load t0, [.t 19]⟩,
  ⟨some 21, none, .bin .eql t0, [.t 18, .t 20]⟩])
 (.cond (.t 21) (.seq (.reg false [
  ⟨some 2, none, .mov, [.bool false]⟩])
 (.ret)) (.skip)))
 (.seq (.reg false [
  ⟨some 22, none, .mov, [.t 3]⟩,
  ⟨some 23, none, .mov, [.t 4]⟩,
  ⟨some 24, none, .bin .add tI, [.t 23, .int .i64 1]⟩,
  ⟨some 25, none, .mov, [.t 3]⟩,
  ⟨some 26, none, .len, [.t 25]⟩,
  ⟨some 27, none, .bin .rem tI, [.t 24, .t 26]⟩,
  ⟨some 28, none, .iadr t1, [.t 22, .t 27]⟩,
  ⟨some 29, none, .load t1, [.t 28]⟩,
  ⟨some 6, none, .alloc 7032 t1, []⟩,
  ⟨none, none, .store t1, [.t 6, .t 29]⟩])
 (.seq (.seq (.reg false [
  ⟨some 30, none, .load t1, [.t 5]⟩,
  ⟨some 31, none, .fadr t1 [true], [.t 6]⟩,
  ⟨some 32, none, .load t0, [.t 31]⟩,
  ⟨some 33, none, .call 8012 (some 23) [.v .bool] false, [.t 30, .t 32]⟩,
  ⟨some 34, none, .mov, [.t 33]⟩,
  ⟨some 35, (some (34, false)), .load t1, [.t 6]⟩,
  ⟨some 36, (some (34, false)), .fadr t1 [false], [.t 5]⟩,
  ⟨some 37, (some (34, false)), .load t0, [.t 36]⟩,
  ⟨some 38, (some (34, false)), .call 8032 (some 23) [.v .bool] false, [.t 35, .t 37]⟩,
  ⟨some 39, none, .pick, [.t 34, .bool true, .t 38]⟩])
 (.cond (.t 39) (.seq (.reg false [
  ⟨some 2, none, .mov, [.bool false]⟩])
 (.ret)) (.skip)))
 (.seq (.reg false [
  ⟨some 40, none, .mov, [.t 4]⟩,
  ⟨some 41, none, .bin .add tI, [.t 40, .int .i64 2]⟩,
  ⟨some 7, none, .mov, [.t 41]⟩])
 (.block 2 (.loop 200000 [3, 4, 5, 7, 10, 11, 12] (.seq (.seq (.reg false [
  ⟨some 42, none, .mov, [.t 7]⟩,
  ⟨some 43, none, .mov, [.t 3]⟩,
  ⟨some 44, none, .len, [.t 43]⟩,
  ⟨some 45, none, .bin .lss tI, [.t 42, .t 44]⟩])
 (.cond (.t 45) (.skip) (.exit 2)))
 (.seq (.block 3 (.seq (.seq (.reg false [
  ⟨some 48, none, .mov, [.t 4]⟩,
  ⟨some 49, none, .bin .eql tI, [.t 48, .int .i64 0]⟩,
  ⟨some 50, none, .mov, [.t 49]⟩,
  ⟨some 51, (some (50, true)), .mov, [.t 7]⟩,
  ⟨some 52, (some (50, true)), .mov, [.t 3]⟩,
  ⟨some 53, (some (50, true)), .len, [.t 52]⟩,
  ⟨some 54, (some (50, true)), .bin .sub tI, [.t 53, .int .i64 1]⟩,
  ⟨some 55, (some (50, true)), .bin .eql tI, [.t 51, .t 54]⟩,
  ⟨some 56, none, .pick, [.t 50, .t 55, .bool false]⟩])
 (.cond (.t 56) (.exit 3) (.skip)))
 (.seq (.reg true [
  ⟨some 57, none, .load t1, [.t 5]⟩,
  ⟨some 58, none, .mov, [.t 3]⟩,
  ⟨some 59, none, .mov, [.t 7]⟩,
  ⟨some 60, none, .iadr t1, [.t 58, .t 59]⟩,
  ⟨some 61, none, .load t1, [.t 60]⟩,
  ⟨some 62, none, .call 14020 (some 24) [.v .bool] false, [.t 57, .t 61]⟩])
 (.cond (.t 62) (.seq (.reg false [
  ⟨some 2, none, .mov, [.bool false]⟩])
 (.ret)) (.skip)))))
 (.reg false [
  ⟨some 46, none, .mov, [.t 7]⟩,
  ⟨some 47, none, .bin .add tI, [.t 46, .int .i64 1]⟩,
  ⟨some 7, none, .mov, [.t 47]⟩])))))))))))
 (.reg false [
  ⟨some 63, none, .bin .add tI, [.t 12, .int .i64 1]⟩,
  ⟨some 12, none, .mov, [.t 63]⟩])))))))
 (.seq (.reg false [
  ⟨some 2, none, .mov, [.bool true]⟩])
 (.ret))))⟩
def cf_polygon_sides : Fn := ⟨1, 31, [.t 2], [.o t1], none,
 .seq (.reg false [
  ⟨some 2, none, .own0 0 t1, []⟩])
 (.seq (.reg false [
  ⟨some 6, none, .mov, [.t 0]⟩,
  ⟨some 7, none, .len, [.t 6]⟩,
  ⟨some 8, none, .mksl 1008 t1 8796093022208, [.t 7, .t 7]⟩,
  ⟨some 3, none, .mov, [.t 8]⟩])
 (.seq (.seq (.reg false [
  ⟨some 9, none, .mov, [.t 0]⟩,
  ⟨some 10, none, .len, [.t 9]⟩,
  ⟨some 11, none, .mov, [.int .i64 0]⟩])
 (.block 0 (.loop 100000 [0, 3, 9, 10, 11] (.seq (.reg false [
  ⟨some 12, none, .bin .lss tI, [.t 11, .t 10]⟩])
 (.seq (.cond (.t 12) (.skip) (.exit 0))
 (.seq (.block 1 (.seq (.reg false [
  ⟨some 13, none, .mov, [.t 11]⟩,
  ⟨some 14, none, .iadr t0, [.t 9, .t 11]⟩,
  ⟨some 15, none, .load t0, [.t 14]⟩,
  ⟨some 5, none, .alloc 4012 t0, []⟩,
  ⟨some 4, none, .mov, [.t 13]⟩,
  ⟨none, none, .store t0, [.t 5, .t 15]⟩])
 (.reg true [
  ⟨some 16, none, .mov, [.t 3]⟩,
  ⟨some 17, none, .mov, [.t 4]⟩,
  ⟨some 18, none, .load t0, [.t 5]⟩,
  ⟨some 19, none, .mov, [.t 0]⟩,
  ⟨some 20, none, .mov, [.t 4]⟩,
  ⟨some 21, none, .bin .add tI, [.t 20, .int .i64 1]⟩,
  ⟨some 22, none, .mov, [.t 0]⟩,
  ⟨some 23, none, .len, [.t 22]⟩,
  ⟨some 24, none, .bin .rem tI, [.t 21, .t 23]⟩,
  ⟨some 25, none, .iadr t0, [.t 19, .t 24]⟩,
  ⟨some 26, none, .load t0, [.t 25]⟩,
  ⟨some 27, none, .build t1 [([false], t0), ([true], t0)], [.t 18, .t 26]⟩,
  ⟨some 28, none, .iadr t1, [.t 16, .t 17]⟩,
  ⟨none, none, .store t1, [.t 28, .t 27]⟩])))
 (.reg false [
  ⟨some 29, none, .bin .add tI, [.t 11, .int .i64 1]⟩,
  ⟨some 11, none, .mov, [.t 29]⟩])))))))
 (.seq (.reg false [
  ⟨some 30, none, .mov, [.t 3]⟩,
  ⟨some 2, none, .mov, [.t 30]⟩])
 (.ret))))⟩
def cf_polygon_side_holds : Fn := ⟨2, 34, [.t 4], [.v .bool], none,
 .seq (.reg false [
  ⟨some 2, none, .box 0 t1, [.t 0]⟩,
  ⟨some 3, none, .box 4 t0, [.t 1]⟩,
  ⟨some 4, none, .mov, [.bool false]⟩])
 (.seq (.reg false [
  ⟨some 5, none, .fadr t1 [false], [.t 2]⟩,
  ⟨some 6, none, .load t0, [.t 5]⟩,
  ⟨some 7, none, .fadr t1 [true], [.t 2]⟩,
  ⟨some 8, none, .load t0, [.t 7]⟩,
  ⟨some 9, none, .load t0, [.t 3]⟩,
  ⟨some 10, none, .call 1020 (some 14) [.v tI] false, [.t 6, .t 8, .t 9]⟩,
  ⟨some 11, none, .bin .eql tI, [.t 10, .int .i64 0]⟩,
  ⟨some 12, none, .mov, [.t 11]⟩,
  ⟨some 13, (some (12, true)), .fadr t0 [false], [.t 3]⟩,
  ⟨some 14, (some (12, true)), .load tI, [.t 13]⟩,
  ⟨some 15, (some (12, true)), .fadr t1 [false], [.t 2]⟩,
  ⟨some 16, (some (12, true)), .fadr t0 [false], [.t 15]⟩,
  ⟨some 17, (some (12, true)), .load tI, [.t 16]⟩,
  ⟨some 18, (some (12, true)), .fadr t1 [true], [.t 2]⟩,
  ⟨some 19, (some (12, true)), .fadr t0 [false], [.t 18]⟩,
  ⟨some 20, (some (12, true)), .load tI, [.t 19]⟩,
  ⟨some 21, (some (12, true)), .call 1064 (some 25) [.v .bool] false, [.t 14, .t 17, .t 20]⟩,
  ⟨some 22, none, .pick, [.t 12, .t 21, .bool false]⟩,
  ⟨some 23, none, .mov, [.t 22]⟩,
  ⟨some 24, (some (23, true)), .fadr t0 [true], [.t 3]⟩,
  ⟨some 25, (some (23, true)), .load tI, [.t 24]⟩,
  ⟨some 26, (some (23, true)), .fadr t1 [false], [.t 2]⟩,
  ⟨some 27, (some (23, true)), .fadr t0 [true], [.t 26]⟩,
  ⟨some 28, (some (23, true)), .load tI, [.t 27]⟩,
  ⟨some 29, (some (23, true)), .fadr t1 [true], [.t 2]⟩,
  ⟨some 30, (some (23, true)), .fadr t0 [true], [.t 29]⟩,
  ⟨some 31, (some (23, true)), .load tI, [.t 30]⟩,
  ⟨some 32, (some (23, true)), .call 1108 (some 25) [.v .bool] false, [.t 25, .t 28, .t 31]⟩,
  ⟨some 33, none, .pick, [.t 23, .t 32, .bool false]⟩,
  ⟨some 4, none, .mov, [.t 33]⟩])
 (.ret))⟩
def cf_polygon_side_meets : Fn := ⟨2, 43, [.t 4], [.v .bool], none,
 .seq (.reg false [
  ⟨some 2, none, .box 0 t1, [.t 0]⟩,
  ⟨some 3, none, .box 4 t1, [.t 1]⟩,
  ⟨some 4, none, .mov, [.bool false]⟩])
 (.seq (.reg false [
  ⟨some 5, none, .load t1, [.t 2]⟩,
  ⟨some 6, none, .fadr t1 [false], [.t 3]⟩,
  ⟨some 7, none, .load t0, [.t 6]⟩,
  ⟨some 8, none, .call 1012 (some 23) [.v .bool] false, [.t 5, .t 7]⟩,
  ⟨some 9, none, .mov, [.t 8]⟩,
  ⟨some 10, (some (9, false)), .load t1, [.t 2]⟩,
  ⟨some 11, (some (9, false)), .fadr t1 [true], [.t 3]⟩,
  ⟨some 12, (some (9, false)), .load t0, [.t 11]⟩,
  ⟨some 13, (some (9, false)), .call 1032 (some 23) [.v .bool] false, [.t 10, .t 12]⟩,
  ⟨some 14, none, .pick, [.t 9, .bool true, .t 13]⟩,
  ⟨some 15, none, .mov, [.t 14]⟩,
  ⟨some 16, (some (15, false)), .load t1, [.t 3]⟩,
  ⟨some 17, (some (15, false)), .fadr t1 [false], [.t 2]⟩,
  ⟨some 18, (some (15, false)), .load t0, [.t 17]⟩,
  ⟨some 19, (some (15, false)), .call 1056 (some 23) [.v .bool] false, [.t 16, .t 18]⟩,
  ⟨some 20, none, .pick, [.t 15, .bool true, .t 19]⟩,
  ⟨some 21, none, .mov, [.t 20]⟩,
  ⟨some 22, (some (21, false)), .load t1, [.t 3]⟩,
  ⟨some 23, (some (21, false)), .fadr t1 [true], [.t 2]⟩,
  ⟨some 24, (some (21, false)), .load t0, [.t 23]⟩,
  ⟨some 25, (some (21, false)), .call 1080 (some 23) [.v .bool] false, [.t 22, .t 24]⟩,
  ⟨some 26, none, .pick, [.t 21, .bool true, .t 25]⟩,
  ⟨some 27, none, .mov, [.t 26]⟩,
  ⟨some 28, (some (27, false)), .load t1, [.t 2]⟩,
  ⟨some 29, (some (27, false)), .fadr t1 [false], [.t 3]⟩,
  ⟨some 30, (some (27, false)), .load t0, [.t 29]⟩,
  ⟨some 31, (some (27, false)), .fadr t1 [true], [.t 3]⟩,
  ⟨some 32, (some (27, false)), .load t0, [.t 31]⟩,
  ⟨some 33, (some (27, false)), .call 1112 (some 26) [.v .bool] false, [.t 28, .t 30, .t 32]⟩,
  ⟨some 34, (some (27, false)), .mov, [.t 33]⟩,
  ⟨some 35, (some (34, true)), .load t1, [.t 3]⟩,
  ⟨some 36, (some (34, true)), .fadr t1 [false], [.t 2]⟩,
  ⟨some 37, (some (34, true)), .load t0, [.t 36]⟩,
  ⟨some 38, (some (34, true)), .fadr t1 [true], [.t 2]⟩,
  ⟨some 39, (some (34, true)), .load t0, [.t 38]⟩,
  ⟨some 40, (some (34, true)), .call 1140 (some 26) [.v .bool] false, [.t 35, .t 37, .t 39]⟩,
  ⟨some 41, (some (27, false)), .pick, [.t 34, .t 40, .bool false]⟩,
  ⟨some 42, none, .pick, [.t 27, .bool true, .t 41]⟩,
  ⟨some 4, none, .mov, [.t 42]⟩])
 (.ret))⟩
def cf_polygon_within : Fn := ⟨3, 19, [.t 6], [.v .bool], none,
 .seq (.reg false [
  ⟨some 6, none, .mov, [.bool false]⟩])
 (.seq (.reg false [
  ⟨some 7, none, .mov, [.t 1]⟩,
  ⟨some 8, none, .mov, [.t 2]⟩,
  ⟨some 9, none, .mm false .i64, [.t 7, .t 8]⟩,
  ⟨some 10, none, .mov, [.t 0]⟩,
  ⟨some 11, none, .bin .leq tI, [.t 9, .t 10]⟩,
  ⟨some 12, none, .mov, [.t 11]⟩,
  ⟨some 13, (some (12, true)), .mov, [.t 0]⟩,
  ⟨some 14, (some (12, true)), .mov, [.t 1]⟩,
  ⟨some 15, (some (12, true)), .mov, [.t 2]⟩,
  ⟨some 16, (some (12, true)), .mm true .i64, [.t 14, .t 15]⟩,
  ⟨some 17, (some (12, true)), .bin .leq tI, [.t 13, .t 16]⟩,
  ⟨some 18, none, .pick, [.t 12, .t 17, .bool false]⟩,
  ⟨some 6, none, .mov, [.t 18]⟩])
 (.ret))⟩
def cf_polygon_side_divides : Fn := ⟨3, 35, [.t 6], [.v .bool], none,
 .seq (.reg false [
  ⟨some 3, none, .box 0 t1, [.t 0]⟩,
  ⟨some 4, none, .box 4 t0, [.t 1]⟩,
  ⟨some 5, none, .box 8 t0, [.t 2]⟩,
  ⟨some 6, none, .mov, [.bool false]⟩])
 (.seq (.reg true [
  ⟨some 9, none, .fadr t1 [false], [.t 3]⟩,
  ⟨some 10, none, .load t0, [.t 9]⟩,
  ⟨some 11, none, .fadr t1 [true], [.t 3]⟩,
  ⟨some 12, none, .load t0, [.t 11]⟩,
  ⟨some 13, none, .load t0, [.t 4]⟩,
  ⟨some 14, none, .call 1020 (some 14) [.v tI] false, [.t 10, .t 12, .t 13]⟩,
  ⟨some 15, none, .fadr t1 [false], [.t 3]⟩,
  ⟨some 16, none, .load t0, [.t 15]⟩,
  ⟨some 17, none, .fadr t1 [true], [.t 3]⟩,
  ⟨some 18, none, .load t0, [.t 17]⟩,
  ⟨some 19, none, .load t0, [.t 5]⟩,
  ⟨some 20, none, .call 1044 (some 14) [.v tI] false, [.t 16, .t 18, .t 19]⟩,
  ⟨some 7, none, .mov, [.t 14]⟩,
  ⟨some 8, none, .mov, [.t 20]⟩])
 (.seq (.reg false [
  ⟨some 21, none, .mov, [.t 7]⟩,
  ⟨some 22, none, .bin .lss tI, [.t 21, .int .i64 0]⟩,
  ⟨some 23, none, .mov, [.t 22]⟩,
  ⟨some 24, (some (23, true)), .mov, [.t 8]⟩,
  ⟨some 25, (some (23, true)), .bin .gtr tI, [.t 24, .int .i64 0]⟩,
  ⟨some 26, none, .pick, [.t 23, .t 25, .bool false]⟩,
  ⟨some 27, none, .mov, [.t 26]⟩,
  ⟨some 28, (some (27, false)), .mov, [.t 7]⟩,
  ⟨some 29, (some (27, false)), .bin .gtr tI, [.t 28, .int .i64 0]⟩,
  ⟨some 30, (some (27, false)), .mov, [.t 29]⟩,
  ⟨some 31, (some (30, true)), .mov, [.t 8]⟩,
  ⟨some 32, (some (30, true)), .bin .lss tI, [.t 31, .int .i64 0]⟩,
  ⟨some 33, (some (27, false)), .pick, [.t 30, .t 32, .bool false]⟩,
  ⟨some 34, none, .pick, [.t 27, .bool true, .t 33]⟩,
  ⟨some 6, none, .mov, [.t 34]⟩])
 (.ret)))⟩
def cf_garmentref11_Cross : Fn := ⟨3, 30, [.t 6], [.v tI], none,
 .seq (.reg false [
  ⟨some 3, none, .box 0 t0, [.t 0]⟩,
  ⟨some 4, none, .box 4 t0, [.t 1]⟩,
  ⟨some 5, none, .box 8 t0, [.t 2]⟩,
  ⟨some 6, none, .mov, [.int .i64 0]⟩])
 (.seq (.reg false [
  ⟨some 7, none, .fadr t0 [false], [.t 4]⟩,
  ⟨some 8, none, .load tI, [.t 7]⟩,
  ⟨some 9, none, .fadr t0 [false], [.t 3]⟩,
  ⟨some 10, none, .load tI, [.t 9]⟩,
  ⟨some 11, none, .bin .sub tI, [.t 8, .t 10]⟩,
  ⟨some 12, none, .fadr t0 [true], [.t 5]⟩,
  ⟨some 13, none, .load tI, [.t 12]⟩,
  ⟨some 14, none, .fadr t0 [true], [.t 3]⟩,
  ⟨some 15, none, .load tI, [.t 14]⟩,
  ⟨some 16, none, .bin .sub tI, [.t 13, .t 15]⟩,
  ⟨some 17, none, .bin .mul tI, [.t 11, .t 16]⟩,
  ⟨some 18, none, .fadr t0 [true], [.t 4]⟩,
  ⟨some 19, none, .load tI, [.t 18]⟩,
  ⟨some 20, none, .fadr t0 [true], [.t 3]⟩,
  ⟨some 21, none, .load tI, [.t 20]⟩,
  ⟨some 22, none, .bin .sub tI, [.t 19, .t 21]⟩,
  ⟨some 23, none, .fadr t0 [false], [.t 5]⟩,
  ⟨some 24, none, .load tI, [.t 23]⟩,
  ⟨some 25, none, .fadr t0 [false], [.t 3]⟩,
  ⟨some 26, none, .load tI, [.t 25]⟩,
  ⟨some 27, none, .bin .sub tI, [.t 24, .t 26]⟩,
  ⟨some 28, none, .bin .mul tI, [.t 22, .t 27]⟩,
  ⟨some 29, none, .bin .sub tI, [.t 17, .t 28]⟩,
  ⟨some 6, none, .mov, [.t 29]⟩])
 (.ret))⟩
def cf_garmentref43_Few : Fn := ⟨2, 40, [.t 4], [.v .bool], none,
 .seq (.reg false [
  ⟨some 4, none, .mov, [.bool false]⟩])
 (.seq (.seq (.reg false [
  ⟨some 7, none, .mov, [.t 0]⟩,
  ⟨some 8, none, .len, [.t 7]⟩,
  ⟨some 9, none, .bin .gtr tI, [.t 8, .int .i64 60]⟩,
  ⟨some 10, none, .mov, [.t 9]⟩,
  ⟨some 11, (some (10, false)), .mov, [.t 1]⟩,
  ⟨some 12, (some (10, false)), .len, [.t 11]⟩,
  ⟨some 13, (some (10, false)), .bin .gtr tI, [.t 12, .int .i64 10]⟩,
  ⟨some 14, none, .pick, [.t 10, .bool true, .t 13]⟩])
 (.cond (.t 14) (.seq (.reg false [
  ⟨some 4, none, .mov, [.bool false]⟩])
 (.ret)) (.skip)))
 (.seq (.seq (.reg false [
  ⟨some 5, none, .mov, [.int .i64 0]⟩])
 (.block 0 (.loop 100000 [0, 1, 5] (.seq (.seq (.reg false [
  ⟨some 15, none, .mov, [.t 5]⟩,
  ⟨some 16, none, .mov, [.t 0]⟩,
  ⟨some 17, none, .len, [.t 16]⟩,
  ⟨some 18, none, .bin .lss tI, [.t 15, .t 17]⟩])
 (.cond (.t 18) (.skip) (.exit 0)))
 (.seq (.block 1 (.seq (.reg false [
  ⟨some 21, none, .mov, [.t 0]⟩,
  ⟨some 22, none, .mov, [.t 5]⟩,
  ⟨some 23, none, .iadr t6, [.t 21, .t 22]⟩,
  ⟨some 24, none, .fadr t6 [true, true, true, true, false], [.t 23]⟩,
  ⟨some 25, none, .load (.sl tI), [.t 24]⟩,
  ⟨some 26, none, .len, [.t 25]⟩,
  ⟨some 27, none, .bin .gtr tI, [.t 26, .int .i64 5]⟩])
 (.cond (.t 27) (.seq (.reg false [
  ⟨some 4, none, .mov, [.bool false]⟩])
 (.ret)) (.skip))))
 (.reg false [
  ⟨some 19, none, .mov, [.t 5]⟩,
  ⟨some 20, none, .bin .add tI, [.t 19, .int .i64 1]⟩,
  ⟨some 5, none, .mov, [.t 20]⟩]))))))
 (.seq (.seq (.reg false [
  ⟨some 6, none, .mov, [.int .i64 0]⟩])
 (.block 2 (.loop 200000 [1, 6] (.seq (.seq (.reg false [
  ⟨some 28, none, .mov, [.t 6]⟩,
  ⟨some 29, none, .mov, [.t 1]⟩,
  ⟨some 30, none, .len, [.t 29]⟩,
  ⟨some 31, none, .bin .lss tI, [.t 28, .t 30]⟩])
 (.cond (.t 31) (.skip) (.exit 2)))
 (.seq (.block 3 (.seq (.reg false [
  ⟨some 34, none, .mov, [.t 1]⟩,
  ⟨some 35, none, .mov, [.t 6]⟩,
  ⟨some 36, none, .iadr (.sl t0), [.t 34, .t 35]⟩,
  ⟨some 37, none, .load (.sl t0), [.t 36]⟩,
  ⟨some 38, none, .len, [.t 37]⟩,
  ⟨some 39, none, .bin .gtr tI, [.t 38, .int .i64 12]⟩])
 (.cond (.t 39) (.seq (.reg false [
  ⟨some 4, none, .mov, [.bool false]⟩])
 (.ret)) (.skip))))
 (.reg false [
  ⟨some 32, none, .mov, [.t 6]⟩,
  ⟨some 33, none, .bin .add tI, [.t 32, .int .i64 1]⟩,
  ⟨some 6, none, .mov, [.t 33]⟩]))))))
 (.seq (.reg false [
  ⟨some 4, none, .mov, [.bool true]⟩])
 (.ret)))))⟩
def cf_garmentlaw43_exampleHolds : Fn := ⟨0, 121, [.t 0], [.v .bool], none,
 .seq (.reg false [
  ⟨some 0, none, .mov, [.bool false]⟩])
 (.seq (.reg false [
  ⟨some 15, none, .build t8 [([false], tI), ([true, true, false], tI), ([true, true, true], tI)], [.int .i64 4, .int .i64 0, .int .i64 30]⟩,
  ⟨some 16, none, .build t8 [([false], tI), ([true, true, false], tI), ([true, true, true], tI)], [.int .i64 5, .int .i64 10, .int .i64 60]⟩,
  ⟨some 17, none, .bsl 1008 t8 2 [0, 1], [.t 15, .t 16]⟩,
  ⟨some 1, none, .mov, [.t 17]⟩])
 (.seq (.reg false [
  ⟨some 19, none, .build t0 [([true], tI)], [.int .i64 20]⟩,
  ⟨some 20, none, .build t0 [([true], tI)], [.int .i64 20]⟩,
  ⟨some 21, none, .build t0 [([true], tI)], [.int .i64 10]⟩,
  ⟨some 22, none, .build t0 [([false], tI), ([true], tI)], [.int .i64 1, .int .i64 1]⟩,
  ⟨some 23, none, .bsl 2016 t0 4 [0, 1, 2, 3], [.t 19, .t 20, .t 21, .t 22]⟩,
  ⟨some 24, none, .mov, [.t 1]⟩,
  ⟨some 25, none, .call 2024 (some 53) [.o t8, .o tI] false, [.t 23, .t 24]⟩,
  ⟨some 18, none, .mov, [.t 25]⟩,
  ⟨some 26, none, .ext 0, [.t 18]⟩,
  ⟨some 27, none, .ext 1, [.t 18]⟩,
  ⟨some 2, none, .mov, [.t 26]⟩,
  ⟨some 3, none, .mov, [.t 27]⟩])
 (.seq (.seq (.reg false [
  ⟨some 28, none, .mov, [.t 3]⟩,
  ⟨some 29, none, .bsl 3004 tI 4 [0, 1, 2, 3], [.int .i64 0, .int .i64 1, .int .i64 0, .int .i64 (-1)]⟩,
  ⟨some 30, none, .call 3008 (some 54) [.v .bool] false, [.t 28, .t 29]⟩,
  ⟨some 31, none, .not, [.t 30]⟩,
  ⟨some 32, none, .mov, [.t 31]⟩,
  ⟨some 33, (some (32, false)), .mov, [.t 2]⟩,
  ⟨some 34, (some (32, false)), .build t8 [([false], tI), ([true, true, false], tI), ([true, true, true], tI)], [.int .i64 4, .int .i64 30, .int .i64 30]⟩,
  ⟨some 35, (some (32, false)), .build t8 [([false], tI), ([true, true, false], tI), ([true, true, true], tI)], [.int .i64 5, .int .i64 30, .int .i64 60]⟩,
  ⟨some 36, (some (32, false)), .bsl 3032 t8 2 [0, 1], [.t 34, .t 35]⟩,
  ⟨some 37, (some (32, false)), .call 3036 (some 51) [.v .bool] false, [.t 33, .t 36]⟩,
  ⟨some 38, (some (32, false)), .not, [.t 37]⟩,
  ⟨some 39, none, .pick, [.t 32, .bool true, .t 38]⟩])
 (.cond (.t 39) (.seq (.reg false [
  ⟨some 0, none, .mov, [.bool false]⟩])
 (.ret)) (.skip)))
 (.seq (.reg false [
  ⟨some 40, none, .bsl 5000 tI 1 [0], [.int .i64 0]⟩,
  ⟨some 41, none, .build t6 [([true, true, false], tI), ([true, true, true, true, false], (.sl tI)), ([true, true, true, true, true], .bool)], [.int .i64 1, .t 40, .bool true]⟩,
  ⟨some 42, none, .bsl 5008 tI 1 [0], [.int .i64 0]⟩,
  ⟨some 43, none, .build t6 [([true, true, false], tI), ([true, false], tI), ([true, true, true, false], tI), ([true, true, true, true, false], (.sl tI)), ([true, true, true, true, true], .bool)], [.int .i64 1, .int .i64 1, .int .i64 2, .t 42, .bool true]⟩,
  ⟨some 44, none, .bsl 5016 tI 1 [0], [.int .i64 0]⟩,
  ⟨some 45, none, .build t6 [([true, true, false], tI), ([true, true, true, true, false], (.sl tI))], [.int .i64 1, .t 44]⟩,
  ⟨some 46, none, .bsl 5024 t6 3 [0, 1, 2], [.t 41, .t 43, .t 45]⟩,
  ⟨some 4, none, .mov, [.t 46]⟩])
 (.seq (.reg false [
  ⟨some 47, none, .build t0 [([false], tI), ([true], tI)], [.int .i64 0, .int .i64 0]⟩,
  ⟨some 48, none, .build t0 [([false], tI), ([true], tI)], [.int .i64 40, .int .i64 0]⟩,
  ⟨some 49, none, .build t0 [([false], tI), ([true], tI)], [.int .i64 0, .int .i64 9]⟩,
  ⟨some 50, none, .bsl 6012 t0 3 [0, 1, 2], [.t 47, .t 48, .t 49]⟩,
  ⟨some 51, none, .build t0 [([false], tI), ([true], tI)], [.int .i64 50, .int .i64 0]⟩,
  ⟨some 52, none, .build t0 [([false], tI), ([true], tI)], [.int .i64 80, .int .i64 0]⟩,
  ⟨some 53, none, .build t0 [([false], tI), ([true], tI)], [.int .i64 60, .int .i64 9]⟩,
  ⟨some 54, none, .bsl 6028 t0 3 [0, 1, 2], [.t 51, .t 52, .t 53]⟩,
  ⟨some 55, none, .bsl 6032 (.sl t0) 2 [0, 1], [.t 50, .t 54]⟩,
  ⟨some 5, none, .mov, [.t 55]⟩])
 (.seq (.reg false [
  ⟨some 57, none, .mov, [.t 4]⟩,
  ⟨some 58, none, .mov, [.t 5]⟩,
  ⟨some 59, none, .call 7008 (some 55) [.o t0, .o tI, .v tI] false, [.t 57, .t 58]⟩,
  ⟨some 56, none, .mov, [.t 59]⟩,
  ⟨some 60, none, .ext 0, [.t 56]⟩,
  ⟨some 61, none, .ext 1, [.t 56]⟩,
  ⟨some 62, none, .ext 2, [.t 56]⟩,
  ⟨some 6, none, .mov, [.t 60]⟩,
  ⟨some 7, none, .mov, [.t 61]⟩,
  ⟨some 8, none, .mov, [.t 62]⟩])
 (.seq (.reg false [
  ⟨some 64, none, .mov, [.t 4]⟩,
  ⟨some 65, none, .mov, [.t 5]⟩,
  ⟨some 66, none, .build t8 [([false], tI), ([true, false], tI), ([true, true, false], tI), ([true, true, true], tI)], [.int .i64 7, .int .i64 1, .int .i64 5, .int .i64 55]⟩,
  ⟨some 67, none, .bsl 8012 t8 1 [0], [.t 66]⟩,
  ⟨some 68, none, .call 8016 (some 48) [.o t6, .o t8, .v tI] false, [.t 64, .t 65, .t 67]⟩,
  ⟨some 63, none, .mov, [.t 68]⟩,
  ⟨some 69, none, .ext 0, [.t 63]⟩,
  ⟨some 70, none, .ext 1, [.t 63]⟩,
  ⟨some 71, none, .ext 2, [.t 63]⟩,
  ⟨some 9, none, .mov, [.t 69]⟩,
  ⟨some 10, none, .mov, [.t 70]⟩,
  ⟨some 11, none, .mov, [.t 71]⟩])
 (.seq (.reg false [
  ⟨some 73, none, .mov, [.t 4]⟩,
  ⟨some 74, none, .mov, [.t 5]⟩,
  ⟨some 75, none, .slice 9008 .snap (.sl t0) false true false, [.t 74, .int .i64 1]⟩,
  ⟨some 76, none, .call 9012 (some 55) [.o t0, .o tI, .v tI] false, [.t 73, .t 75]⟩,
  ⟨some 72, none, .mov, [.t 76]⟩,
  ⟨some 77, none, .ext 0, [.t 72]⟩,
  ⟨some 78, none, .ext 1, [.t 72]⟩,
  ⟨some 79, none, .ext 2, [.t 72]⟩,
  ⟨some 12, none, .mov, [.t 77]⟩,
  ⟨some 13, none, .mov, [.t 78]⟩,
  ⟨some 14, none, .mov, [.t 79]⟩])
 (.seq (.seq (.reg false [
  ⟨some 80, none, .mov, [.t 8]⟩,
  ⟨some 81, none, .bin .neq tI, [.t 80, .int .i64 0]⟩,
  ⟨some 82, none, .mov, [.t 81]⟩,
  ⟨some 83, (some (82, false)), .mov, [.t 11]⟩,
  ⟨some 84, (some (82, false)), .bin .neq tI, [.t 83, .int .i64 0]⟩,
  ⟨some 85, none, .pick, [.t 82, .bool true, .t 84]⟩,
  ⟨some 86, none, .mov, [.t 85]⟩,
  ⟨some 87, (some (86, false)), .mov, [.t 14]⟩,
  ⟨some 88, (some (86, false)), .bin .neq tI, [.t 87, .int .i64 3]⟩,
  ⟨some 89, none, .pick, [.t 86, .bool true, .t 88]⟩,
  ⟨some 90, none, .mov, [.t 89]⟩,
  ⟨some 91, (some (90, false)), .mov, [.t 6]⟩,
  ⟨some 92, (some (90, false)), .build t0 [([false], tI), ([true], tI)], [.int .i64 1, .int .i64 40]⟩,
  ⟨some 93, (some (90, false)), .build t0 [([false], tI), ([true], tI)], [.int .i64 1, .int .i64 30]⟩,
  ⟨some 94, (some (90, false)), .bsl 10056 t0 2 [0, 1], [.t 92, .t 93]⟩,
  ⟨some 95, (some (90, false)), .call 10060 (some 56) [.v .bool] false, [.t 91, .t 94]⟩,
  ⟨some 96, (some (90, false)), .not, [.t 95]⟩,
  ⟨some 97, none, .pick, [.t 90, .bool true, .t 96]⟩,
  ⟨some 98, none, .mov, [.t 97]⟩,
  ⟨some 99, (some (98, false)), .mov, [.t 7]⟩,
  ⟨some 100, (some (98, false)), .bsl 10080 tI 2 [0, 1], [.int .i64 0, .int .i64 1]⟩,
  ⟨some 101, (some (98, false)), .call 10084 (some 54) [.v .bool] false, [.t 99, .t 100]⟩,
  ⟨some 102, (some (98, false)), .not, [.t 101]⟩,
  ⟨some 103, none, .pick, [.t 98, .bool true, .t 102]⟩])
 (.cond (.t 103) (.seq (.reg false [
  ⟨some 0, none, .mov, [.bool false]⟩])
 (.ret)) (.skip)))
 (.seq (.reg true [
  ⟨some 104, none, .mov, [.t 9]⟩,
  ⟨some 105, none, .bsl 12004 tI 1 [0], [.int .i64 7]⟩,
  ⟨some 106, none, .build t6 [([true, true, false], tI), ([true, true, true, true, false], (.sl tI))], [.int .i64 1, .t 105]⟩,
  ⟨some 107, none, .mov, [.t 4]⟩,
  ⟨some 108, none, .iadr t6, [.t 107, .int .i64 1]⟩,
  ⟨some 109, none, .load t6, [.t 108]⟩,
  ⟨some 110, none, .mov, [.t 4]⟩,
  ⟨some 111, none, .iadr t6, [.t 110, .int .i64 2]⟩,
  ⟨some 112, none, .load t6, [.t 111]⟩,
  ⟨some 113, none, .bsl 12036 t6 3 [0, 1, 2], [.t 106, .t 109, .t 112]⟩,
  ⟨some 114, none, .call 12040 (some 50) [.v .bool] false, [.t 104, .t 113]⟩,
  ⟨some 115, none, .mov, [.t 114]⟩,
  ⟨some 116, (some (115, true)), .mov, [.t 10]⟩,
  ⟨some 117, (some (115, true)), .build t8 [([false], tI), ([true, false], tI), ([true, true, false], tI), ([true, true, true], tI)], [.int .i64 7, .int .i64 1, .int .i64 45, .int .i64 55]⟩,
  ⟨some 118, (some (115, true)), .bsl 12056 t8 1 [0], [.t 117]⟩,
  ⟨some 119, (some (115, true)), .call 12060 (some 51) [.v .bool] false, [.t 116, .t 118]⟩,
  ⟨some 120, none, .pick, [.t 115, .t 119, .bool false]⟩,
  ⟨some 0, none, .mov, [.t 120]⟩])
 (.ret)))))))))))⟩
def cf_recut_Recut : Fn := ⟨3, 82, [.t 6, .t 7, .t 8], [.o t6, .o t8, .v tI], none,
 .seq (.reg false [
  ⟨some 6, none, .own0 0 t6, []⟩,
  ⟨some 7, none, .own0 4 t8, []⟩,
  ⟨some 8, none, .mov, [.int .i64 0]⟩])
 (.seq (.reg false [
  ⟨some 20, none, .mov, [.t 0]⟩,
  ⟨some 21, none, .mov, [.t 1]⟩,
  ⟨some 22, none, .call 1008 (some 55) [.o t0, .o tI, .v tI] false, [.t 20, .t 21]⟩,
  ⟨some 19, none, .mov, [.t 22]⟩,
  ⟨some 23, none, .ext 0, [.t 19]⟩,
  ⟨some 24, none, .ext 1, [.t 19]⟩,
  ⟨some 25, none, .ext 2, [.t 19]⟩,
  ⟨some 9, none, .mov, [.t 23]⟩,
  ⟨some 10, none, .mov, [.t 24]⟩,
  ⟨some 11, none, .mov, [.t 25]⟩])
 (.seq (.seq (.reg false [
  ⟨some 26, none, .mov, [.t 11]⟩,
  ⟨some 27, none, .bin .neq tI, [.t 26, .int .i64 0]⟩])
 (.cond (.t 27) (.seq (.reg false [
  ⟨some 28, none, .mov, [.t 11]⟩,
  ⟨some 6, none, .own0 3004 t6, []⟩,
  ⟨some 7, none, .own0 3008 t8, []⟩,
  ⟨some 8, none, .mov, [.t 28]⟩])
 (.ret)) (.skip)))
 (.seq (.reg false [
  ⟨some 30, none, .mov, [.t 9]⟩,
  ⟨some 31, none, .mov, [.t 2]⟩,
  ⟨some 32, none, .call 4008 (some 53) [.o t8, .o tI] false, [.t 30, .t 31]⟩,
  ⟨some 29, none, .mov, [.t 32]⟩,
  ⟨some 33, none, .ext 0, [.t 29]⟩,
  ⟨some 34, none, .ext 1, [.t 29]⟩,
  ⟨some 12, none, .mov, [.t 33]⟩,
  ⟨some 13, none, .mov, [.t 34]⟩])
 (.seq (.reg false [
  ⟨some 14, none, .own0 5000 t6, []⟩])
 (.seq (.seq (.reg false [
  ⟨some 35, none, .mov, [.t 0]⟩,
  ⟨some 36, none, .len, [.t 35]⟩,
  ⟨some 37, none, .mov, [.int .i64 0]⟩])
 (.block 0 (.loop 100000 [2, 10, 12, 13, 14, 35, 36, 37] (.seq (.reg false [
  ⟨some 38, none, .bin .lss tI, [.t 37, .t 36]⟩])
 (.seq (.cond (.t 38) (.skip) (.exit 0))
 (.seq (.block 1 (.seq (.reg false [
  ⟨some 39, none, .iadr t6, [.t 35, .t 37]⟩,
  ⟨some 40, none, .load t6, [.t 39]⟩,
  ⟨some 16, none, .alloc 8008 t6, []⟩,
  ⟨none, none, .store t6, [.t 16, .t 40]⟩])
 (.seq (.reg false [
  ⟨some 41, none, .fadr t6 [true, true, true, true, false], [.t 16]⟩,
  ⟨some 42, none, .load (.sl tI), [.t 41]⟩,
  ⟨some 43, none, .call 9008 (some 62) [.o tI] false, [.t 42]⟩,
  ⟨some 44, none, .fadr t6 [true, true, true, true, false], [.t 16]⟩,
  ⟨none, none, .store (.sl tI), [.t 44, .t 43]⟩])
 (.reg false [
  ⟨some 45, none, .mov, [.t 14]⟩,
  ⟨some 46, none, .load t6, [.t 16]⟩,
  ⟨some 47, none, .bsl 10008 t6 1 [0], [.t 46]⟩,
  ⟨some 48, none, .app 10012 t6 2199023255552, [.t 45, .t 47]⟩,
  ⟨some 14, none, .mov, [.t 48]⟩]))))
 (.reg false [
  ⟨some 49, none, .bin .add tI, [.t 37, .int .i64 1]⟩,
  ⟨some 37, none, .mov, [.t 49]⟩])))))))
 (.seq (.seq (.reg false [
  ⟨some 50, none, .mov, [.t 13]⟩,
  ⟨some 51, none, .len, [.t 50]⟩,
  ⟨some 52, none, .mov, [.int .i64 0]⟩])
 (.block 2 (.loop 200000 [2, 10, 12, 14, 50, 51, 52] (.seq (.reg false [
  ⟨some 53, none, .bin .lss tI, [.t 52, .t 51]⟩])
 (.seq (.cond (.t 53) (.skip) (.exit 2))
 (.seq (.block 3 (.seq (.reg false [
  ⟨some 54, none, .mov, [.t 52]⟩,
  ⟨some 55, none, .iadr tI, [.t 50, .t 52]⟩,
  ⟨some 56, none, .load tI, [.t 55]⟩,
  ⟨some 17, none, .mov, [.t 54]⟩,
  ⟨some 18, none, .mov, [.t 56]⟩])
 (.seq (.reg false [
  ⟨some 57, none, .mov, [.t 18]⟩,
  ⟨some 58, none, .bin .geq tI, [.t 57, .int .i64 0]⟩])
 (.cond (.t 58) (.seq (.reg true [
  ⟨some 59, none, .mov, [.t 14]⟩,
  ⟨some 60, none, .mov, [.t 10]⟩,
  ⟨some 61, none, .mov, [.t 17]⟩,
  ⟨some 62, none, .iadr tI, [.t 60, .t 61]⟩,
  ⟨some 63, none, .load tI, [.t 62]⟩,
  ⟨some 64, none, .mov, [.t 2]⟩,
  ⟨some 65, none, .mov, [.t 18]⟩,
  ⟨some 66, none, .iadr t8, [.t 64, .t 65]⟩,
  ⟨some 67, none, .fadr t8 [false], [.t 66]⟩,
  ⟨some 68, none, .load tI, [.t 67]⟩,
  ⟨some 69, none, .bsl 16040 tI 1 [0], [.t 68]⟩,
  ⟨some 70, none, .iadr t6, [.t 59, .t 63]⟩,
  ⟨some 71, none, .fadr t6 [true, true, true, true, false], [.t 70]⟩,
  ⟨none, none, .store (.sl tI), [.t 71, .t 69]⟩])
 (.reg false [
  ⟨some 72, none, .mov, [.t 14]⟩,
  ⟨some 73, none, .mov, [.t 10]⟩,
  ⟨some 74, none, .mov, [.t 17]⟩,
  ⟨some 75, none, .iadr tI, [.t 73, .t 74]⟩,
  ⟨some 76, none, .load tI, [.t 75]⟩,
  ⟨some 77, none, .iadr t6, [.t 72, .t 76]⟩,
  ⟨some 78, none, .fadr t6 [true, true, true, true, true], [.t 77]⟩,
  ⟨none, none, .store .bool, [.t 78, .bool false]⟩])) (.skip)))))
 (.reg false [
  ⟨some 79, none, .bin .add tI, [.t 52, .int .i64 1]⟩,
  ⟨some 52, none, .mov, [.t 79]⟩])))))))
 (.seq (.reg false [
  ⟨some 80, none, .mov, [.t 14]⟩,
  ⟨some 81, none, .mov, [.t 12]⟩,
  ⟨some 6, none, .mov, [.t 80]⟩,
  ⟨some 7, none, .mov, [.t 81]⟩,
  ⟨some 8, none, .mov, [.int .i64 0]⟩])
 (.ret))))))))⟩
def cf_garmentref43_SameCuts : Fn := ⟨2, 27, [.t 4], [.v .bool], none,
 .seq (.reg false [
  ⟨some 4, none, .mov, [.bool false]⟩])
 (.seq (.seq (.reg false [
  ⟨some 6, none, .mov, [.t 0]⟩,
  ⟨some 7, none, .len, [.t 6]⟩,
  ⟨some 8, none, .mov, [.t 1]⟩,
  ⟨some 9, none, .len, [.t 8]⟩,
  ⟨some 10, none, .bin .neq tI, [.t 7, .t 9]⟩])
 (.cond (.t 10) (.seq (.reg false [
  ⟨some 4, none, .mov, [.bool false]⟩])
 (.ret)) (.skip)))
 (.seq (.seq (.reg false [
  ⟨some 5, none, .mov, [.int .i64 0]⟩])
 (.block 0 (.loop 100000 [0, 1, 5] (.seq (.seq (.reg false [
  ⟨some 11, none, .mov, [.t 5]⟩,
  ⟨some 12, none, .mov, [.t 0]⟩,
  ⟨some 13, none, .len, [.t 12]⟩,
  ⟨some 14, none, .bin .lss tI, [.t 11, .t 13]⟩])
 (.cond (.t 14) (.skip) (.exit 0)))
 (.seq (.block 1 (.seq (.reg true [
  ⟨some 17, none, .mov, [.t 0]⟩,
  ⟨some 18, none, .mov, [.t 5]⟩,
  ⟨some 19, none, .iadr t6, [.t 17, .t 18]⟩,
  ⟨some 20, none, .load t6, [.t 19]⟩,
  ⟨some 21, none, .mov, [.t 1]⟩,
  ⟨some 22, none, .mov, [.t 5]⟩,
  ⟨some 23, none, .iadr t6, [.t 21, .t 22]⟩,
  ⟨some 24, none, .load t6, [.t 23]⟩,
  ⟨some 25, none, .call 6032 (some 63) [.v .bool] false, [.t 20, .t 24]⟩,
  ⟨some 26, none, .not, [.t 25]⟩])
 (.cond (.t 26) (.seq (.reg false [
  ⟨some 4, none, .mov, [.bool false]⟩])
 (.ret)) (.skip))))
 (.reg false [
  ⟨some 15, none, .mov, [.t 5]⟩,
  ⟨some 16, none, .bin .add tI, [.t 15, .int .i64 1]⟩,
  ⟨some 5, none, .mov, [.t 16]⟩]))))))
 (.seq (.reg false [
  ⟨some 4, none, .mov, [.bool true]⟩])
 (.ret))))⟩
def cf_garmentref43_SameRests : Fn := ⟨2, 26, [.t 4], [.v .bool], none,
 .seq (.reg false [
  ⟨some 4, none, .mov, [.bool false]⟩])
 (.seq (.seq (.reg false [
  ⟨some 6, none, .mov, [.t 0]⟩,
  ⟨some 7, none, .len, [.t 6]⟩,
  ⟨some 8, none, .mov, [.t 1]⟩,
  ⟨some 9, none, .len, [.t 8]⟩,
  ⟨some 10, none, .bin .neq tI, [.t 7, .t 9]⟩])
 (.cond (.t 10) (.seq (.reg false [
  ⟨some 4, none, .mov, [.bool false]⟩])
 (.ret)) (.skip)))
 (.seq (.seq (.reg false [
  ⟨some 5, none, .mov, [.int .i64 0]⟩])
 (.block 0 (.loop 100000 [0, 1, 5] (.seq (.seq (.reg false [
  ⟨some 11, none, .mov, [.t 5]⟩,
  ⟨some 12, none, .mov, [.t 0]⟩,
  ⟨some 13, none, .len, [.t 12]⟩,
  ⟨some 14, none, .bin .lss tI, [.t 11, .t 13]⟩])
 (.cond (.t 14) (.skip) (.exit 0)))
 (.seq (.block 1 (.seq (.reg true [
  ⟨some 17, none, .mov, [.t 0]⟩,
  ⟨some 18, none, .mov, [.t 5]⟩,
  ⟨some 19, none, .iadr t8, [.t 17, .t 18]⟩,
  ⟨some 20, none, .load t8, [.t 19]⟩,
  ⟨some 21, none, .mov, [.t 1]⟩,
  ⟨some 22, none, .mov, [.t 5]⟩,
  ⟨some 23, none, .iadr t8, [.t 21, .t 22]⟩,
  ⟨some 24, none, .load t8, [.t 23]⟩,
  ⟨some 25, none, .bin .neq t8, [.t 20, .t 24]⟩])
 (.cond (.t 25) (.seq (.reg false [
  ⟨some 4, none, .mov, [.bool false]⟩])
 (.ret)) (.skip))))
 (.reg false [
  ⟨some 15, none, .mov, [.t 5]⟩,
  ⟨some 16, none, .bin .add tI, [.t 15, .int .i64 1]⟩,
  ⟨some 5, none, .mov, [.t 16]⟩]))))))
 (.seq (.reg false [
  ⟨some 4, none, .mov, [.bool true]⟩])
 (.ret))))⟩
def cf_recut_Assign : Fn := ⟨2, 41, [.t 4, .t 5], [.o t8, .o tI], none,
 .seq (.reg false [
  ⟨some 4, none, .own0 0 t8, []⟩,
  ⟨some 5, none, .own0 4 tI, []⟩])
 (.seq (.reg false [
  ⟨some 11, none, .mov, [.t 1]⟩,
  ⟨some 12, none, .call 1004 (some 57) [.o t8] false, [.t 11]⟩,
  ⟨some 6, none, .mov, [.t 12]⟩])
 (.seq (.reg false [
  ⟨some 7, none, .own0 2000 tI, []⟩])
 (.seq (.seq (.reg false [
  ⟨some 13, none, .mov, [.t 0]⟩,
  ⟨some 14, none, .len, [.t 13]⟩,
  ⟨some 15, none, .mov, [.int .i64 0]⟩])
 (.block 0 (.loop 100000 [6, 7, 13, 14, 15] (.seq (.reg false [
  ⟨some 16, none, .bin .lss tI, [.t 15, .t 14]⟩])
 (.seq (.cond (.t 16) (.skip) (.exit 0))
 (.seq (.block 1 (.seq (.reg false [
  ⟨some 17, none, .iadr t0, [.t 13, .t 15]⟩,
  ⟨some 18, none, .load t0, [.t 17]⟩,
  ⟨some 9, none, .alloc 5008 t0, []⟩,
  ⟨none, none, .store t0, [.t 9, .t 18]⟩])
 (.seq (.reg false [
  ⟨some 19, none, .mov, [.t 6]⟩,
  ⟨some 20, none, .mkfn 58, [.t 9]⟩,
  ⟨some 21, none, .call 6008 (some 59) [.v tI] false, [.t 19, .t 20]⟩,
  ⟨some 10, none, .mov, [.t 21]⟩])
 (.seq (.seq (.reg false [
  ⟨some 22, none, .mov, [.t 10]⟩,
  ⟨some 23, none, .bin .geq tI, [.t 22, .int .i64 0]⟩])
 (.cond (.t 23) (.reg true [
  ⟨some 24, none, .mov, [.t 6]⟩,
  ⟨some 25, none, .mov, [.t 10]⟩,
  ⟨some 26, none, .iadr t8, [.t 24, .t 25]⟩,
  ⟨some 27, none, .fadr t8 [true, true, false], [.t 26]⟩,
  ⟨some 28, none, .load tI, [.t 27]⟩,
  ⟨some 29, none, .fadr t0 [true], [.t 9]⟩,
  ⟨some 30, none, .load tI, [.t 29]⟩,
  ⟨some 31, none, .bin .add tI, [.t 28, .t 30]⟩,
  ⟨some 32, none, .iadr t8, [.t 24, .t 25]⟩,
  ⟨some 33, none, .fadr t8 [true, true, false], [.t 32]⟩,
  ⟨none, none, .store tI, [.t 33, .t 31]⟩]) (.skip)))
 (.reg false [
  ⟨some 34, none, .mov, [.t 7]⟩,
  ⟨some 35, none, .mov, [.t 10]⟩,
  ⟨some 36, none, .bsl 9008 tI 1 [0], [.t 35]⟩,
  ⟨some 37, none, .app 9012 tI 17592186044416, [.t 34, .t 36]⟩,
  ⟨some 7, none, .mov, [.t 37]⟩])))))
 (.reg false [
  ⟨some 38, none, .bin .add tI, [.t 15, .int .i64 1]⟩,
  ⟨some 15, none, .mov, [.t 38]⟩])))))))
 (.seq (.reg false [
  ⟨some 39, none, .mov, [.t 6]⟩,
  ⟨some 40, none, .mov, [.t 7]⟩,
  ⟨some 4, none, .mov, [.t 39]⟩,
  ⟨some 5, none, .mov, [.t 40]⟩])
 (.ret)))))⟩
def cf_garmentref43_SameInts : Fn := ⟨2, 26, [.t 4], [.v .bool], none,
 .seq (.reg false [
  ⟨some 4, none, .mov, [.bool false]⟩])
 (.seq (.seq (.reg false [
  ⟨some 6, none, .mov, [.t 0]⟩,
  ⟨some 7, none, .len, [.t 6]⟩,
  ⟨some 8, none, .mov, [.t 1]⟩,
  ⟨some 9, none, .len, [.t 8]⟩,
  ⟨some 10, none, .bin .neq tI, [.t 7, .t 9]⟩])
 (.cond (.t 10) (.seq (.reg false [
  ⟨some 4, none, .mov, [.bool false]⟩])
 (.ret)) (.skip)))
 (.seq (.seq (.reg false [
  ⟨some 5, none, .mov, [.int .i64 0]⟩])
 (.block 0 (.loop 100000 [0, 1, 5] (.seq (.seq (.reg false [
  ⟨some 11, none, .mov, [.t 5]⟩,
  ⟨some 12, none, .mov, [.t 0]⟩,
  ⟨some 13, none, .len, [.t 12]⟩,
  ⟨some 14, none, .bin .lss tI, [.t 11, .t 13]⟩])
 (.cond (.t 14) (.skip) (.exit 0)))
 (.seq (.block 1 (.seq (.reg true [
  ⟨some 17, none, .mov, [.t 0]⟩,
  ⟨some 18, none, .mov, [.t 5]⟩,
  ⟨some 19, none, .iadr tI, [.t 17, .t 18]⟩,
  ⟨some 20, none, .load tI, [.t 19]⟩,
  ⟨some 21, none, .mov, [.t 1]⟩,
  ⟨some 22, none, .mov, [.t 5]⟩,
  ⟨some 23, none, .iadr tI, [.t 21, .t 22]⟩,
  ⟨some 24, none, .load tI, [.t 23]⟩,
  ⟨some 25, none, .bin .neq tI, [.t 20, .t 24]⟩])
 (.cond (.t 25) (.seq (.reg false [
  ⟨some 4, none, .mov, [.bool false]⟩])
 (.ret)) (.skip))))
 (.reg false [
  ⟨some 15, none, .mov, [.t 5]⟩,
  ⟨some 16, none, .bin .add tI, [.t 15, .int .i64 1]⟩,
  ⟨some 5, none, .mov, [.t 16]⟩]))))))
 (.seq (.reg false [
  ⟨some 4, none, .mov, [.bool true]⟩])
 (.ret))))⟩
def cf_recut_Needs : Fn := ⟨2, 60, [.t 4, .t 5, .t 6], [.o t0, .o tI, .v tI], none,
 .seq (.reg false [
  ⟨some 4, none, .own0 0 t0, []⟩,
  ⟨some 5, none, .own0 4 tI, []⟩,
  ⟨some 6, none, .mov, [.int .i64 0]⟩])
 (.seq (.reg false [
  ⟨some 7, none, .own0 1000 t0, []⟩])
 (.seq (.reg false [
  ⟨some 8, none, .own0 2000 tI, []⟩])
 (.seq (.seq (.reg false [
  ⟨some 13, none, .mov, [.t 0]⟩,
  ⟨some 14, none, .len, [.t 13]⟩,
  ⟨some 15, none, .mov, [.int .i64 0]⟩])
 (.block 0 (.loop 100000 [1, 7, 8, 13, 14, 15] (.seq (.reg false [
  ⟨some 16, none, .bin .lss tI, [.t 15, .t 14]⟩])
 (.seq (.cond (.t 16) (.skip) (.exit 0))
 (.seq (.block 1 (.seq (.reg false [
  ⟨some 17, none, .mov, [.t 15]⟩,
  ⟨some 18, none, .iadr t6, [.t 13, .t 15]⟩,
  ⟨some 19, none, .load t6, [.t 18]⟩,
  ⟨some 10, none, .alloc 5012 t6, []⟩,
  ⟨some 9, none, .mov, [.t 17]⟩,
  ⟨none, none, .store t6, [.t 10, .t 19]⟩])
 (.seq (.seq (.reg false [
  ⟨some 20, none, .fadr t6 [true, true, true, true, true], [.t 10]⟩,
  ⟨some 21, none, .load .bool, [.t 20]⟩,
  ⟨some 22, none, .not, [.t 21]⟩])
 (.cond (.t 22) (.exit 1) (.skip)))
 (.seq (.seq (.reg false [
  ⟨some 23, none, .fadr t6 [true, false], [.t 10]⟩,
  ⟨some 24, none, .load tI, [.t 23]⟩,
  ⟨some 25, none, .bin .lss tI, [.t 24, .int .i64 0]⟩,
  ⟨some 26, none, .mov, [.t 25]⟩,
  ⟨some 27, (some (26, false)), .fadr t6 [true, false], [.t 10]⟩,
  ⟨some 28, (some (26, false)), .load tI, [.t 27]⟩,
  ⟨some 29, (some (26, false)), .mov, [.t 1]⟩,
  ⟨some 30, (some (26, false)), .len, [.t 29]⟩,
  ⟨some 31, (some (26, false)), .bin .geq tI, [.t 28, .t 30]⟩,
  ⟨some 32, none, .pick, [.t 26, .bool true, .t 31]⟩])
 (.cond (.t 32) (.seq (.reg false [
  ⟨some 4, none, .own0 8000 t0, []⟩,
  ⟨some 5, none, .own0 8004 tI, []⟩,
  ⟨some 6, none, .mov, [.int .i64 3]⟩])
 (.ret)) (.skip)))
 (.seq (.reg false [
  ⟨some 34, none, .mov, [.t 1]⟩,
  ⟨some 35, none, .fadr t6 [true, false], [.t 10]⟩,
  ⟨some 36, none, .load tI, [.t 35]⟩,
  ⟨some 37, none, .iadr (.sl t0), [.t 34, .t 36]⟩,
  ⟨some 38, none, .load (.sl t0), [.t 37]⟩,
  ⟨some 39, none, .call 9020 (some 61) [.v t8, .v tI] false, [.t 38]⟩,
  ⟨some 33, none, .mov, [.t 39]⟩,
  ⟨some 40, none, .ext 0, [.t 33]⟩,
  ⟨some 41, none, .ext 1, [.t 33]⟩,
  ⟨some 11, none, .alloc 9036 t8, []⟩,
  ⟨none, none, .store t8, [.t 11, .t 40]⟩,
  ⟨some 12, none, .mov, [.t 41]⟩])
 (.seq (.seq (.reg false [
  ⟨some 42, none, .mov, [.t 12]⟩,
  ⟨some 43, none, .bin .neq tI, [.t 42, .int .i64 0]⟩])
 (.cond (.t 43) (.seq (.reg false [
  ⟨some 44, none, .mov, [.t 12]⟩,
  ⟨some 4, none, .own0 11004 t0, []⟩,
  ⟨some 5, none, .own0 11008 tI, []⟩,
  ⟨some 6, none, .mov, [.t 44]⟩])
 (.ret)) (.skip)))
 (.seq (.reg false [
  ⟨some 45, none, .mov, [.t 7]⟩,
  ⟨some 46, none, .fadr t6 [true, true, false], [.t 10]⟩,
  ⟨some 47, none, .load tI, [.t 46]⟩,
  ⟨some 48, none, .fadr t8 [true, true, false], [.t 11]⟩,
  ⟨some 49, none, .load tI, [.t 48]⟩,
  ⟨some 50, none, .build t0 [([false], tI), ([true], tI)], [.t 47, .t 49]⟩,
  ⟨some 51, none, .bsl 12024 t0 1 [0], [.t 50]⟩,
  ⟨some 52, none, .app 12028 t0 8796093022208, [.t 45, .t 51]⟩,
  ⟨some 7, none, .mov, [.t 52]⟩])
 (.reg false [
  ⟨some 53, none, .mov, [.t 8]⟩,
  ⟨some 54, none, .mov, [.t 9]⟩,
  ⟨some 55, none, .bsl 13008 tI 1 [0], [.t 54]⟩,
  ⟨some 56, none, .app 13012 tI 17592186044416, [.t 53, .t 55]⟩,
  ⟨some 8, none, .mov, [.t 56]⟩]))))))))
 (.reg false [
  ⟨some 57, none, .bin .add tI, [.t 15, .int .i64 1]⟩,
  ⟨some 15, none, .mov, [.t 57]⟩])))))))
 (.seq (.reg false [
  ⟨some 58, none, .mov, [.t 7]⟩,
  ⟨some 59, none, .mov, [.t 8]⟩,
  ⟨some 4, none, .mov, [.t 58]⟩,
  ⟨some 5, none, .mov, [.t 59]⟩,
  ⟨some 6, none, .mov, [.int .i64 0]⟩])
 (.ret)))))⟩
def cf_garmentref43_SameNeeds : Fn := ⟨2, 26, [.t 4], [.v .bool], none,
 .seq (.reg false [
  ⟨some 4, none, .mov, [.bool false]⟩])
 (.seq (.seq (.reg false [
  ⟨some 6, none, .mov, [.t 0]⟩,
  ⟨some 7, none, .len, [.t 6]⟩,
  ⟨some 8, none, .mov, [.t 1]⟩,
  ⟨some 9, none, .len, [.t 8]⟩,
  ⟨some 10, none, .bin .neq tI, [.t 7, .t 9]⟩])
 (.cond (.t 10) (.seq (.reg false [
  ⟨some 4, none, .mov, [.bool false]⟩])
 (.ret)) (.skip)))
 (.seq (.seq (.reg false [
  ⟨some 5, none, .mov, [.int .i64 0]⟩])
 (.block 0 (.loop 100000 [0, 1, 5] (.seq (.seq (.reg false [
  ⟨some 11, none, .mov, [.t 5]⟩,
  ⟨some 12, none, .mov, [.t 0]⟩,
  ⟨some 13, none, .len, [.t 12]⟩,
  ⟨some 14, none, .bin .lss tI, [.t 11, .t 13]⟩])
 (.cond (.t 14) (.skip) (.exit 0)))
 (.seq (.block 1 (.seq (.reg true [
  ⟨some 17, none, .mov, [.t 0]⟩,
  ⟨some 18, none, .mov, [.t 5]⟩,
  ⟨some 19, none, .iadr t0, [.t 17, .t 18]⟩,
  ⟨some 20, none, .load t0, [.t 19]⟩,
  ⟨some 21, none, .mov, [.t 1]⟩,
  ⟨some 22, none, .mov, [.t 5]⟩,
  ⟨some 23, none, .iadr t0, [.t 21, .t 22]⟩,
  ⟨some 24, none, .load t0, [.t 23]⟩,
  ⟨some 25, none, .bin .neq t0, [.t 20, .t 24]⟩])
 (.cond (.t 25) (.seq (.reg false [
  ⟨some 4, none, .mov, [.bool false]⟩])
 (.ret)) (.skip))))
 (.reg false [
  ⟨some 15, none, .mov, [.t 5]⟩,
  ⟨some 16, none, .bin .add tI, [.t 15, .int .i64 1]⟩,
  ⟨some 5, none, .mov, [.t 16]⟩]))))))
 (.seq (.reg false [
  ⟨some 4, none, .mov, [.bool true]⟩])
 (.ret))))⟩
def cf_slices_Clone_api_Rest_api_Rest : Fn := ⟨1, 8, [.t 2], [.o t8], some t8,
 .seq (.reg false [
  ⟨some 2, none, .own0 0 t8, []⟩])
 (.seq (.seq (.reg false [
  ⟨some 3, none, .mov, [.t 0]⟩,
  ⟨some 4, none, .isNil false, [.t 3, .nil]⟩])
 (.cond (.t 4) (.seq (.reg false [
  ⟨some 2, none, .own0 2000 t8, []⟩])
 (.ret)) (.skip)))
 (.seq (.reg false [
  ⟨some 5, none, .bsl 3000 t8 0 [], []⟩,
  ⟨some 6, none, .mov, [.t 0]⟩,
  ⟨some 7, none, .app 3008 t8 4398046511104, [.t 5, .t 6]⟩,
  ⟨some 2, none, .mov, [.t 7]⟩])
 (.ret)))⟩
def cf_recut_Assign_1 : Fn := ⟨2, 7, [.t 3], [.v .bool], none,
 .seq (.reg false [
  ⟨some 2, none, .box 0 t8, [.t 0]⟩,
  ⟨some 3, none, .mov, [.bool false]⟩])
 (.seq (.reg false [
  ⟨some 4, none, .load t0, [.t 1]⟩,
  ⟨some 5, none, .load t8, [.t 2]⟩,
  ⟨some 6, none, .call 1008 (some 60) [.v .bool] false, [.t 4, .t 5]⟩,
  ⟨some 3, none, .mov, [.t 6]⟩])
 (.ret))⟩
def cf_slices_IndexFunc_api_Rest_api_Rest : Fn := ⟨2, 19, [.t 4], [.v tI], none,
 .seq (.reg false [
  ⟨some 4, none, .mov, [.int .i64 0]⟩])
 (.seq (.seq (.reg false [
  ⟨some 6, none, .mov, [.t 0]⟩,
  ⟨some 7, none, .len, [.t 6]⟩,
  ⟨some 8, none, .mov, [.int .i64 0]⟩])
 (.block 0 (.loop 100000 [0, 1, 7, 8] (.seq (.reg false [
  ⟨some 9, none, .bin .lss tI, [.t 8, .t 7]⟩])
 (.seq (.cond (.t 9) (.skip) (.exit 0))
 (.seq (.block 1 (.seq (.reg false [
  ⟨some 10, none, .mov, [.t 8]⟩,
  ⟨some 5, none, .mov, [.t 10]⟩])
 (.seq (.reg false [
  ⟨some 11, none, .mov, [.t 1]⟩,
  ⟨some 12, none, .mov, [.t 0]⟩,
  ⟨some 13, none, .mov, [.t 5]⟩,
  ⟨some 14, none, .iadr t8, [.t 12, .t 13]⟩,
  ⟨some 15, none, .load t8, [.t 14]⟩,
  ⟨some 16, none, .call 4020 none [.v .bool] false, [.t 11, .t 15]⟩])
 (.cond (.t 16) (.seq (.reg false [
  ⟨some 17, none, .mov, [.t 5]⟩,
  ⟨some 4, none, .mov, [.t 17]⟩])
 (.ret)) (.skip)))))
 (.reg false [
  ⟨some 18, none, .bin .add tI, [.t 8, .int .i64 1]⟩,
  ⟨some 8, none, .mov, [.t 18]⟩])))))))
 (.seq (.reg false [
  ⟨some 4, none, .mov, [.int .i64 (-1)]⟩])
 (.ret)))⟩
def cf_recut_suits : Fn := ⟨2, 45, [.t 4], [.v .bool], none,
 .seq (.reg false [
  ⟨some 2, none, .box 0 t0, [.t 0]⟩,
  ⟨some 3, none, .box 4 t8, [.t 1]⟩,
  ⟨some 4, none, .mov, [.bool false]⟩])
 (.seq (.seq (.reg false [
  ⟨some 5, none, .fadr t0 [true], [.t 2]⟩,
  ⟨some 6, none, .load tI, [.t 5]⟩,
  ⟨some 7, none, .bin .lss tI, [.t 6, .int .i64 1]⟩,
  ⟨some 8, none, .mov, [.t 7]⟩,
  ⟨some 9, (some (8, false)), .fadr t0 [true], [.t 2]⟩,
  ⟨some 10, (some (8, false)), .load tI, [.t 9]⟩,
  ⟨some 11, (some (8, false)), .bin .gtr tI, [.t 10, .int .i64 1048576]⟩,
  ⟨some 12, none, .pick, [.t 8, .bool true, .t 11]⟩,
  ⟨some 13, none, .mov, [.t 12]⟩,
  ⟨some 14, (some (13, false)), .fadr t8 [true, false], [.t 3]⟩,
  ⟨some 15, (some (13, false)), .load tI, [.t 14]⟩,
  ⟨some 16, (some (13, false)), .fadr t0 [false], [.t 2]⟩,
  ⟨some 17, (some (13, false)), .load tI, [.t 16]⟩,
  ⟨some 18, (some (13, false)), .bin .neq tI, [.t 15, .t 17]⟩,
  ⟨some 19, none, .pick, [.t 13, .bool true, .t 18]⟩])
 (.cond (.t 19) (.seq (.reg false [
  ⟨some 4, none, .mov, [.bool false]⟩])
 (.ret)) (.skip)))
 (.seq (.reg false [
  ⟨some 20, none, .fadr t8 [true, true, false], [.t 3]⟩,
  ⟨some 21, none, .load tI, [.t 20]⟩,
  ⟨some 22, none, .bin .geq tI, [.t 21, .int .i64 0]⟩,
  ⟨some 23, none, .mov, [.t 22]⟩,
  ⟨some 24, (some (23, true)), .fadr t8 [true, true, false], [.t 3]⟩,
  ⟨some 25, (some (23, true)), .load tI, [.t 24]⟩,
  ⟨some 26, (some (23, true)), .fadr t8 [true, true, true], [.t 3]⟩,
  ⟨some 27, (some (23, true)), .load tI, [.t 26]⟩,
  ⟨some 28, (some (23, true)), .bin .leq tI, [.t 25, .t 27]⟩,
  ⟨some 29, none, .pick, [.t 23, .t 28, .bool false]⟩,
  ⟨some 30, none, .mov, [.t 29]⟩,
  ⟨some 31, (some (30, true)), .fadr t8 [true, true, true], [.t 3]⟩,
  ⟨some 32, (some (30, true)), .load tI, [.t 31]⟩,
  ⟨some 33, (some (30, true)), .bin .leq tI, [.t 32, .int .i64 1048576]⟩,
  ⟨some 34, none, .pick, [.t 30, .t 33, .bool false]⟩,
  ⟨some 35, none, .mov, [.t 34]⟩,
  ⟨some 36, (some (35, true)), .fadr t8 [true, true, true], [.t 3]⟩,
  ⟨some 37, (some (35, true)), .load tI, [.t 36]⟩,
  ⟨some 38, (some (35, true)), .fadr t8 [true, true, false], [.t 3]⟩,
  ⟨some 39, (some (35, true)), .load tI, [.t 38]⟩,
  ⟨some 40, (some (35, true)), .bin .sub tI, [.t 37, .t 39]⟩,
  ⟨some 41, (some (35, true)), .fadr t0 [true], [.t 2]⟩,
  ⟨some 42, (some (35, true)), .load tI, [.t 41]⟩,
  ⟨some 43, (some (35, true)), .bin .geq tI, [.t 40, .t 42]⟩,
  ⟨some 44, none, .pick, [.t 35, .t 43, .bool false]⟩,
  ⟨some 4, none, .mov, [.t 44]⟩])
 (.ret)))⟩
def cf_polygon_Box : Fn := ⟨1, 67, [.c 2 t8, .t 3], [.v t8, .v tI], none,
 .seq (.reg false [
  ⟨some 2, none, .alloc 0 t8, []⟩,
  ⟨some 3, none, .mov, [.int .i64 0]⟩])
 (.seq (.seq (.reg false [
  ⟨some 9, none, .mov, [.t 0]⟩,
  ⟨some 10, none, .call 1004 (some 13) [.v tI] false, [.t 9]⟩,
  ⟨some 4, none, .mov, [.t 10]⟩])
 (.seq (.reg false [
  ⟨some 11, none, .mov, [.t 4]⟩,
  ⟨some 12, none, .bin .neq tI, [.t 11, .int .i64 0]⟩])
 (.cond (.t 12) (.seq (.reg false [
  ⟨some 13, none, .build t8 [], []⟩,
  ⟨some 14, none, .mov, [.t 4]⟩,
  ⟨none, none, .store t8, [.t 2, .t 13]⟩,
  ⟨some 3, none, .mov, [.t 14]⟩])
 (.ret)) (.skip))))
 (.seq (.reg true [
  ⟨some 15, none, .mov, [.t 0]⟩,
  ⟨some 16, none, .iadr t0, [.t 15, .int .i64 0]⟩,
  ⟨some 17, none, .load t0, [.t 16]⟩,
  ⟨some 18, none, .mov, [.t 0]⟩,
  ⟨some 19, none, .iadr t0, [.t 18, .int .i64 0]⟩,
  ⟨some 20, none, .loadi t0, [.t 19]⟩,
  ⟨some 5, none, .alloc 4024 t0, []⟩,
  ⟨some 6, none, .alloc 4028 t0, []⟩,
  ⟨none, none, .store t0, [.t 5, .t 17]⟩,
  ⟨none, none, .store t0, [.t 6, .t 20]⟩])
 (.seq (.seq (.reg false [
  ⟨some 21, none, .mov, [.t 0]⟩,
  ⟨some 22, none, .len, [.t 21]⟩,
  ⟨some 23, none, .mov, [.int .i64 0]⟩])
 (.block 0 (.loop 100000 [2, 5, 6, 21, 22, 23] (.seq (.reg false [
  ⟨some 24, none, .bin .lss tI, [.t 23, .t 22]⟩])
 (.seq (.cond (.t 24) (.skip) (.exit 0))
 (.seq (.block 1 (.seq (.reg false [
  ⟨some 25, none, .iadr t0, [.t 21, .t 23]⟩,
  ⟨some 26, none, .load t0, [.t 25]⟩,
  ⟨some 8, none, .alloc 7008 t0, []⟩,
  ⟨none, none, .store t0, [.t 8, .t 26]⟩])
 (.seq (.reg true [
  ⟨some 27, none, .fadr t0 [false], [.t 5]⟩,
  ⟨some 28, none, .load tI, [.t 27]⟩,
  ⟨some 29, none, .fadr t0 [false], [.t 8]⟩,
  ⟨some 30, none, .load tI, [.t 29]⟩,
  ⟨some 31, none, .mm false .i64, [.t 28, .t 30]⟩,
  ⟨some 32, none, .fadr t0 [true], [.t 5]⟩,
  ⟨some 33, none, .load tI, [.t 32]⟩,
  ⟨some 34, none, .fadr t0 [true], [.t 8]⟩,
  ⟨some 35, none, .loadb tI, [.t 34, .t 8]⟩,
  ⟨some 36, none, .mm false .i64, [.t 33, .t 35]⟩,
  ⟨some 37, none, .fadr t0 [false], [.t 5]⟩,
  ⟨none, none, .storeb tI, [.t 37, .t 31, .t 8]⟩,
  ⟨some 38, none, .fadr t0 [true], [.t 5]⟩,
  ⟨none, none, .store tI, [.t 38, .t 36]⟩])
 (.reg true [
  ⟨some 39, none, .fadr t0 [false], [.t 6]⟩,
  ⟨some 40, none, .load tI, [.t 39]⟩,
  ⟨some 41, none, .fadr t0 [false], [.t 8]⟩,
  ⟨some 42, none, .load tI, [.t 41]⟩,
  ⟨some 43, none, .mm true .i64, [.t 40, .t 42]⟩,
  ⟨some 44, none, .fadr t0 [true], [.t 6]⟩,
  ⟨some 45, none, .load tI, [.t 44]⟩,
  ⟨some 46, none, .fadr t0 [true], [.t 8]⟩,
  ⟨some 47, none, .loadb tI, [.t 46, .t 8]⟩,
  ⟨some 48, none, .mm true .i64, [.t 45, .t 47]⟩,
  ⟨some 49, none, .fadr t0 [false], [.t 6]⟩,
  ⟨none, none, .storeb tI, [.t 49, .t 43, .t 8]⟩,
  ⟨some 50, none, .fadr t0 [true], [.t 6]⟩,
  ⟨none, none, .store tI, [.t 50, .t 48]⟩]))))
 (.reg false [
  ⟨some 51, none, .bin .add tI, [.t 23, .int .i64 1]⟩,
  ⟨some 23, none, .mov, [.t 51]⟩])))))))
 (.seq (.reg false [
  ⟨some 52, none, .fadr t0 [false], [.t 5]⟩,
  ⟨some 53, none, .load tI, [.t 52]⟩,
  ⟨some 54, none, .fadr t0 [true], [.t 5]⟩,
  ⟨some 55, none, .load tI, [.t 54]⟩,
  ⟨some 56, none, .fadr t0 [false], [.t 6]⟩,
  ⟨some 57, none, .load tI, [.t 56]⟩,
  ⟨some 58, none, .fadr t0 [false], [.t 5]⟩,
  ⟨some 59, none, .load tI, [.t 58]⟩,
  ⟨some 60, none, .bin .sub tI, [.t 57, .t 59]⟩,
  ⟨some 61, none, .fadr t0 [true], [.t 6]⟩,
  ⟨some 62, none, .load tI, [.t 61]⟩,
  ⟨some 63, none, .fadr t0 [true], [.t 5]⟩,
  ⟨some 64, none, .load tI, [.t 63]⟩,
  ⟨some 65, none, .bin .sub tI, [.t 62, .t 64]⟩,
  ⟨some 66, none, .build t8 [([false], tI), ([true, false], tI), ([true, true, false], tI), ([true, true, true], tI)], [.t 53, .t 55, .t 60, .t 65]⟩,
  ⟨none, none, .store t8, [.t 2, .t 66]⟩,
  ⟨some 3, none, .mov, [.int .i64 0]⟩])
 (.ret)))))⟩
def cf_slices_Clone_int_int : Fn := ⟨1, 8, [.t 2], [.o tI], some tI,
 .seq (.reg false [
  ⟨some 2, none, .own0 0 tI, []⟩])
 (.seq (.seq (.reg false [
  ⟨some 3, none, .mov, [.t 0]⟩,
  ⟨some 4, none, .isNil false, [.t 3, .nil]⟩])
 (.cond (.t 4) (.seq (.reg false [
  ⟨some 2, none, .own0 2000 tI, []⟩])
 (.ret)) (.skip)))
 (.seq (.reg false [
  ⟨some 5, none, .bsl 3000 tI 0 [], []⟩,
  ⟨some 6, none, .mov, [.t 0]⟩,
  ⟨some 7, none, .app 3008 tI 17592186044416, [.t 5, .t 6]⟩,
  ⟨some 2, none, .mov, [.t 7]⟩])
 (.ret)))⟩
def cf_garmentref43_SameCut : Fn := ⟨2, 45, [.t 4], [.v .bool], none,
 .seq (.reg false [
  ⟨some 2, none, .box 0 t6, [.t 0]⟩,
  ⟨some 3, none, .box 4 t6, [.t 1]⟩,
  ⟨some 4, none, .mov, [.bool false]⟩])
 (.seq (.reg false [
  ⟨some 5, none, .fadr t6 [false], [.t 2]⟩,
  ⟨some 6, none, .load tI, [.t 5]⟩,
  ⟨some 7, none, .fadr t6 [false], [.t 3]⟩,
  ⟨some 8, none, .load tI, [.t 7]⟩,
  ⟨some 9, none, .bin .eql tI, [.t 6, .t 8]⟩,
  ⟨some 10, none, .mov, [.t 9]⟩,
  ⟨some 11, (some (10, true)), .fadr t6 [true, false], [.t 2]⟩,
  ⟨some 12, (some (10, true)), .load tI, [.t 11]⟩,
  ⟨some 13, (some (10, true)), .fadr t6 [true, false], [.t 3]⟩,
  ⟨some 14, (some (10, true)), .load tI, [.t 13]⟩,
  ⟨some 15, (some (10, true)), .bin .eql tI, [.t 12, .t 14]⟩,
  ⟨some 16, none, .pick, [.t 10, .t 15, .bool false]⟩,
  ⟨some 17, none, .mov, [.t 16]⟩,
  ⟨some 18, (some (17, true)), .fadr t6 [true, true, false], [.t 2]⟩,
  ⟨some 19, (some (17, true)), .load tI, [.t 18]⟩,
  ⟨some 20, (some (17, true)), .fadr t6 [true, true, false], [.t 3]⟩,
  ⟨some 21, (some (17, true)), .load tI, [.t 20]⟩,
  ⟨some 22, (some (17, true)), .bin .eql tI, [.t 19, .t 21]⟩,
  ⟨some 23, none, .pick, [.t 17, .t 22, .bool false]⟩,
  ⟨some 24, none, .mov, [.t 23]⟩,
  ⟨some 25, (some (24, true)), .fadr t6 [true, true, true, false], [.t 2]⟩,
  ⟨some 26, (some (24, true)), .load tI, [.t 25]⟩,
  ⟨some 27, (some (24, true)), .fadr t6 [true, true, true, false], [.t 3]⟩,
  ⟨some 28, (some (24, true)), .load tI, [.t 27]⟩,
  ⟨some 29, (some (24, true)), .bin .eql tI, [.t 26, .t 28]⟩,
  ⟨some 30, none, .pick, [.t 24, .t 29, .bool false]⟩,
  ⟨some 31, none, .mov, [.t 30]⟩,
  ⟨some 32, (some (31, true)), .fadr t6 [true, true, true, true, true], [.t 2]⟩,
  ⟨some 33, (some (31, true)), .load .bool, [.t 32]⟩,
  ⟨some 34, (some (31, true)), .fadr t6 [true, true, true, true, true], [.t 3]⟩,
  ⟨some 35, (some (31, true)), .load .bool, [.t 34]⟩,
  ⟨some 36, (some (31, true)), .bin .eql .bool, [.t 33, .t 35]⟩,
  ⟨some 37, none, .pick, [.t 31, .t 36, .bool false]⟩,
  ⟨some 38, none, .mov, [.t 37]⟩,
  ⟨some 39, (some (38, true)), .fadr t6 [true, true, true, true, false], [.t 2]⟩,
  ⟨some 40, (some (38, true)), .load (.sl tI), [.t 39]⟩,
  ⟨some 41, (some (38, true)), .fadr t6 [true, true, true, true, false], [.t 3]⟩,
  ⟨some 42, (some (38, true)), .load (.sl tI), [.t 41]⟩,
  ⟨some 43, (some (38, true)), .call 1152 (some 54) [.v .bool] false, [.t 40, .t 42]⟩,
  ⟨some 44, none, .pick, [.t 38, .t 43, .bool false]⟩,
  ⟨some 4, none, .mov, [.t 44]⟩])
 (.ret))⟩
def cf_garmentref11_Check : Fn := ⟨1, 25, [.t 2], [.v tI], none,
 .seq (.reg false [
  ⟨some 2, none, .mov, [.int .i64 0]⟩])
 (.seq (.seq (.reg false [
  ⟨some 4, none, .mov, [.t 0]⟩,
  ⟨some 5, none, .len, [.t 4]⟩,
  ⟨some 6, none, .bin .gtr tI, [.t 5, .int .i64 40]⟩])
 (.cond (.t 6) (.seq (.reg false [
  ⟨some 2, none, .mov, [.int .i64 5]⟩])
 (.ret)) (.skip)))
 (.seq (.seq (.reg false [
  ⟨some 7, none, .mov, [.t 0]⟩,
  ⟨some 8, none, .len, [.t 7]⟩,
  ⟨some 9, none, .bin .lss tI, [.t 8, .int .i64 3]⟩])
 (.cond (.t 9) (.seq (.reg false [
  ⟨some 2, none, .mov, [.int .i64 11]⟩])
 (.ret)) (.skip)))
 (.seq (.seq (.reg false [
  ⟨some 3, none, .mov, [.int .i64 0]⟩])
 (.block 0 (.loop 100000 [0, 3] (.seq (.seq (.reg false [
  ⟨some 10, none, .mov, [.t 3]⟩,
  ⟨some 11, none, .mov, [.t 0]⟩,
  ⟨some 12, none, .len, [.t 11]⟩,
  ⟨some 13, none, .bin .lss tI, [.t 10, .t 12]⟩])
 (.cond (.t 13) (.skip) (.exit 0)))
 (.seq (.block 1 (.seq (.reg false [
  ⟨some 16, none, .mov, [.t 0]⟩,
  ⟨some 17, none, .mov, [.t 3]⟩,
  ⟨some 18, none, .iadr t0, [.t 16, .t 17]⟩,
  ⟨some 19, none, .load t0, [.t 18]⟩,
  ⟨some 20, none, .call 8016 (some 68) [.v .bool] false, [.t 19, .int .i64 1048576]⟩,
  ⟨some 21, none, .not, [.t 20]⟩])
 (.cond (.t 21) (.seq (.reg false [
  ⟨some 2, none, .mov, [.int .i64 3]⟩])
 (.ret)) (.skip))))
 (.reg false [
  ⟨some 14, none, .mov, [.t 3]⟩,
  ⟨some 15, none, .bin .add tI, [.t 14, .int .i64 1]⟩,
  ⟨some 3, none, .mov, [.t 15]⟩]))))))
 (.seq (.seq (.reg false [
  ⟨some 22, none, .mov, [.t 0]⟩,
  ⟨some 23, none, .call 10004 (some 69) [.v .bool] false, [.t 22]⟩,
  ⟨some 24, none, .not, [.t 23]⟩])
 (.cond (.t 24) (.seq (.reg false [
  ⟨some 2, none, .mov, [.int .i64 11]⟩])
 (.ret)) (.skip)))
 (.seq (.reg false [
  ⟨some 2, none, .mov, [.int .i64 0]⟩])
 (.ret))))))⟩
def cf_garmentref11_Within : Fn := ⟨2, 29, [.t 4], [.v .bool], none,
 .seq (.reg false [
  ⟨some 2, none, .box 0 t0, [.t 0]⟩,
  ⟨some 4, none, .mov, [.bool false]⟩])
 (.seq (.reg false [
  ⟨some 5, none, .fadr t0 [false], [.t 2]⟩,
  ⟨some 6, none, .load tI, [.t 5]⟩,
  ⟨some 7, none, .mov, [.t 1]⟩,
  ⟨some 8, none, .neg .i64, [.t 7]⟩,
  ⟨some 9, none, .bin .geq tI, [.t 6, .t 8]⟩,
  ⟨some 10, none, .mov, [.t 9]⟩,
  ⟨some 11, (some (10, true)), .fadr t0 [false], [.t 2]⟩,
  ⟨some 12, (some (10, true)), .load tI, [.t 11]⟩,
  ⟨some 13, (some (10, true)), .mov, [.t 1]⟩,
  ⟨some 14, (some (10, true)), .bin .leq tI, [.t 12, .t 13]⟩,
  ⟨some 15, none, .pick, [.t 10, .t 14, .bool false]⟩,
  ⟨some 16, none, .mov, [.t 15]⟩,
  ⟨some 17, (some (16, true)), .fadr t0 [true], [.t 2]⟩,
  ⟨some 18, (some (16, true)), .load tI, [.t 17]⟩,
  ⟨some 19, (some (16, true)), .mov, [.t 1]⟩,
  ⟨some 20, (some (16, true)), .neg .i64, [.t 19]⟩,
  ⟨some 21, (some (16, true)), .bin .geq tI, [.t 18, .t 20]⟩,
  ⟨some 22, none, .pick, [.t 16, .t 21, .bool false]⟩,
  ⟨some 23, none, .mov, [.t 22]⟩,
  ⟨some 24, (some (23, true)), .fadr t0 [true], [.t 2]⟩,
  ⟨some 25, (some (23, true)), .load tI, [.t 24]⟩,
  ⟨some 26, (some (23, true)), .mov, [.t 1]⟩,
  ⟨some 27, (some (23, true)), .bin .leq tI, [.t 25, .t 26]⟩,
  ⟨some 28, none, .pick, [.t 23, .t 27, .bool false]⟩,
  ⟨some 4, none, .mov, [.t 28]⟩])
 (.ret))⟩
def cf_garmentref11_simple : Fn := ⟨1, 78, [.t 2], [.v .bool], none,
 .seq (.reg false [
  ⟨some 2, none, .mov, [.bool false]⟩])
 (.seq (.reg false [
  ⟨some 9, none, .mov, [.t 0]⟩,
  ⟨some 10, none, .len, [.t 9]⟩,
  ⟨some 3, none, .mov, [.t 10]⟩])
 (.seq (.seq (.reg false [
  ⟨some 4, none, .mov, [.int .i64 0]⟩])
 (.block 0 (.loop 100000 [0, 3, 4] (.seq (.seq (.reg false [
  ⟨some 11, none, .mov, [.t 4]⟩,
  ⟨some 12, none, .mov, [.t 3]⟩,
  ⟨some 13, none, .bin .lss tI, [.t 11, .t 12]⟩])
 (.cond (.t 13) (.skip) (.exit 0)))
 (.seq (.block 1 (.seq (.reg true [
  ⟨some 16, none, .mov, [.t 0]⟩,
  ⟨some 17, none, .mov, [.t 4]⟩,
  ⟨some 18, none, .iadr t0, [.t 16, .t 17]⟩,
  ⟨some 19, none, .load t0, [.t 18]⟩,
  ⟨some 20, none, .mov, [.t 0]⟩,
  ⟨some 21, none, .mov, [.t 4]⟩,
  ⟨some 22, none, .bin .add tI, [.t 21, .int .i64 1]⟩,
  ⟨some 23, none, .mov, [.t 3]⟩,
  ⟨some 24, none, .bin .rem tI, [.t 22, .t 23]⟩,
  ⟨some 25, none, .iadr t0, [.t 20, .t 24]⟩,
  ⟨some 26, none, .loadi t0, [.t 25]⟩,
  ⟨some 5, none, .alloc 5044 t0, []⟩,
  ⟨some 6, none, .alloc 5048 t0, []⟩,
  ⟨none, none, .store t0, [.t 5, .t 19]⟩,
  ⟨none, none, .store t0, [.t 6, .t 26]⟩])
 (.seq (.reg false [
  ⟨some 27, none, .mov, [.t 0]⟩,
  ⟨some 28, none, .mov, [.t 4]⟩,
  ⟨some 29, none, .bin .add tI, [.t 28, .int .i64 2]⟩,
  ⟨some 30, none, .mov, [.t 3]⟩,
  ⟨some 31, none, .bin .rem tI, [.t 29, .t 30]⟩,
  ⟨some 32, none, .iadr t0, [.t 27, .t 31]⟩,
  ⟨some 33, none, .load t0, [.t 32]⟩,
  ⟨some 7, none, .alloc 6028 t0, []⟩,
  ⟨none, none, .store t0, [.t 7, .t 33]⟩])
 (.seq (.seq (.reg false [
  ⟨some 34, none, .load t0, [.t 5]⟩,
  ⟨some 35, none, .load t0, [.t 6]⟩,
  ⟨some 36, none, .bin .eql t0, [.t 34, .t 35]⟩,
  ⟨some 37, none, .mov, [.t 36]⟩,
  ⟨some 38, (some (37, false)), .load t0, [.t 5]⟩,
  ⟨some 39, (some (37, false)), .load t0, [.t 6]⟩,
  ⟨some 40, (some (37, false)), .load t0, [.t 7]⟩,
  ⟨some 41, (some (37, false)), .call 7028 (some 70) [.v .bool] false, [.t 38, .t 39, .t 40]⟩,
  ⟨some 42, none, .pick, [.t 37, .bool true, .t 41]⟩,
  ⟨some 43, none, .mov, [.t 42]⟩,
  ⟨some 44, (some (43, false)), .load t0, [.t 6]⟩,
  ⟨some 45, (some (43, false)), .load t0, [.t 7]⟩,
  ⟨some 46, (some (43, false)), .load t0, [.t 5]⟩,
  ⟨some 47, (some (43, false)), .call 7052 (some 70) [.v .bool] false, [.t 44, .t 45, .t 46]⟩,
  ⟨some 48, none, .pick, [.t 43, .bool true, .t 47]⟩])
 (.cond (.t 48) (.seq (.reg false [
  ⟨some 2, none, .mov, [.bool false]⟩])
 (.ret)) (.skip)))
 (.seq (.reg false [
  ⟨some 49, none, .mov, [.t 4]⟩,
  ⟨some 50, none, .bin .add tI, [.t 49, .int .i64 2]⟩,
  ⟨some 8, none, .mov, [.t 50]⟩])
 (.block 2 (.loop 200000 [0, 3, 4, 5, 6, 8] (.seq (.seq (.reg false [
  ⟨some 51, none, .mov, [.t 8]⟩,
  ⟨some 52, none, .mov, [.t 3]⟩,
  ⟨some 53, none, .bin .lss tI, [.t 51, .t 52]⟩])
 (.cond (.t 53) (.skip) (.exit 2)))
 (.seq (.block 3 (.seq (.reg true [
  ⟨some 56, none, .mov, [.t 8]⟩,
  ⟨some 57, none, .bin .add tI, [.t 56, .int .i64 1]⟩,
  ⟨some 58, none, .mov, [.t 3]⟩,
  ⟨some 59, none, .bin .rem tI, [.t 57, .t 58]⟩,
  ⟨some 60, none, .mov, [.t 4]⟩,
  ⟨some 61, none, .bin .neq tI, [.t 59, .t 60]⟩,
  ⟨some 62, none, .mov, [.t 61]⟩,
  ⟨some 63, (some (62, true)), .load t0, [.t 5]⟩,
  ⟨some 64, (some (62, true)), .load t0, [.t 6]⟩,
  ⟨some 65, (some (62, true)), .mov, [.t 0]⟩,
  ⟨some 66, (some (62, true)), .mov, [.t 8]⟩,
  ⟨some 67, (some (62, true)), .iadr t0, [.t 65, .t 66]⟩,
  ⟨some 68, (some (62, true)), .load t0, [.t 67]⟩,
  ⟨some 69, (some (62, true)), .mov, [.t 0]⟩,
  ⟨some 70, (some (62, true)), .mov, [.t 8]⟩,
  ⟨some 71, (some (62, true)), .bin .add tI, [.t 70, .int .i64 1]⟩,
  ⟨some 72, (some (62, true)), .mov, [.t 3]⟩,
  ⟨some 73, (some (62, true)), .bin .rem tI, [.t 71, .t 72]⟩,
  ⟨some 74, (some (62, true)), .iadr t0, [.t 69, .t 73]⟩,
  ⟨some 75, (some (62, true)), .load t0, [.t 74]⟩,
  ⟨some 76, (some (62, true)), .call 12080 (some 71) [.v .bool] false, [.t 63, .t 64, .t 68, .t 75]⟩,
  ⟨some 77, none, .pick, [.t 62, .t 76, .bool false]⟩])
 (.cond (.t 77) (.seq (.reg false [
  ⟨some 2, none, .mov, [.bool false]⟩])
 (.ret)) (.skip))))
 (.reg false [
  ⟨some 54, none, .mov, [.t 8]⟩,
  ⟨some 55, none, .bin .add tI, [.t 54, .int .i64 1]⟩,
  ⟨some 8, none, .mov, [.t 55]⟩]))))))))))
 (.reg false [
  ⟨some 14, none, .mov, [.t 4]⟩,
  ⟨some 15, none, .bin .add tI, [.t 14, .int .i64 1]⟩,
  ⟨some 4, none, .mov, [.t 15]⟩]))))))
 (.seq (.reg false [
  ⟨some 2, none, .mov, [.bool true]⟩])
 (.ret))))⟩
def cf_garmentref11_Between : Fn := ⟨3, 52, [.t 6], [.v .bool], none,
 .seq (.reg false [
  ⟨some 3, none, .box 0 t0, [.t 0]⟩,
  ⟨some 4, none, .box 4 t0, [.t 1]⟩,
  ⟨some 5, none, .box 8 t0, [.t 2]⟩,
  ⟨some 6, none, .mov, [.bool false]⟩])
 (.seq (.reg false [
  ⟨some 7, none, .load t0, [.t 3]⟩,
  ⟨some 8, none, .load t0, [.t 4]⟩,
  ⟨some 9, none, .load t0, [.t 5]⟩,
  ⟨some 10, none, .call 1012 (some 33) [.v tI] false, [.t 7, .t 8, .t 9]⟩,
  ⟨some 11, none, .bin .eql tI, [.t 10, .int .i64 0]⟩,
  ⟨some 12, none, .mov, [.t 11]⟩,
  ⟨some 13, (some (12, true)), .fadr t0 [false], [.t 3]⟩,
  ⟨some 14, (some (12, true)), .load tI, [.t 13]⟩,
  ⟨some 15, (some (12, true)), .fadr t0 [false], [.t 4]⟩,
  ⟨some 16, (some (12, true)), .load tI, [.t 15]⟩,
  ⟨some 17, (some (12, true)), .mm false .i64, [.t 14, .t 16]⟩,
  ⟨some 18, (some (12, true)), .fadr t0 [false], [.t 5]⟩,
  ⟨some 19, (some (12, true)), .load tI, [.t 18]⟩,
  ⟨some 20, (some (12, true)), .bin .leq tI, [.t 17, .t 19]⟩,
  ⟨some 21, none, .pick, [.t 12, .t 20, .bool false]⟩,
  ⟨some 22, none, .mov, [.t 21]⟩,
  ⟨some 23, (some (22, true)), .fadr t0 [false], [.t 5]⟩,
  ⟨some 24, (some (22, true)), .load tI, [.t 23]⟩,
  ⟨some 25, (some (22, true)), .fadr t0 [false], [.t 3]⟩,
  ⟨some 26, (some (22, true)), .load tI, [.t 25]⟩,
  ⟨some 27, (some (22, true)), .fadr t0 [false], [.t 4]⟩,
  ⟨some 28, (some (22, true)), .load tI, [.t 27]⟩,
  ⟨some 29, (some (22, true)), .mm true .i64, [.t 26, .t 28]⟩,
  ⟨some 30, (some (22, true)), .bin .leq tI, [.t 24, .t 29]⟩,
  ⟨some 31, none, .pick, [.t 22, .t 30, .bool false]⟩,
  ⟨some 32, none, .mov, [.t 31]⟩,
  ⟨some 33, (some (32, true)), .fadr t0 [true], [.t 3]⟩,
  ⟨some 34, (some (32, true)), .load tI, [.t 33]⟩,
  ⟨some 35, (some (32, true)), .fadr t0 [true], [.t 4]⟩,
  ⟨some 36, (some (32, true)), .load tI, [.t 35]⟩,
  ⟨some 37, (some (32, true)), .mm false .i64, [.t 34, .t 36]⟩,
  ⟨some 38, (some (32, true)), .fadr t0 [true], [.t 5]⟩,
  ⟨some 39, (some (32, true)), .load tI, [.t 38]⟩,
  ⟨some 40, (some (32, true)), .bin .leq tI, [.t 37, .t 39]⟩,
  ⟨some 41, none, .pick, [.t 32, .t 40, .bool false]⟩,
  ⟨some 42, none, .mov, [.t 41]⟩,
  ⟨some 43, (some (42, true)), .fadr t0 [true], [.t 5]⟩,
  ⟨some 44, (some (42, true)), .load tI, [.t 43]⟩,
  ⟨some 45, (some (42, true)), .fadr t0 [true], [.t 3]⟩,
  ⟨some 46, (some (42, true)), .load tI, [.t 45]⟩,
  ⟨some 47, (some (42, true)), .fadr t0 [true], [.t 4]⟩,
  ⟨some 48, (some (42, true)), .load tI, [.t 47]⟩,
  ⟨some 49, (some (42, true)), .mm true .i64, [.t 46, .t 48]⟩,
  ⟨some 50, (some (42, true)), .bin .leq tI, [.t 44, .t 49]⟩,
  ⟨some 51, none, .pick, [.t 42, .t 50, .bool false]⟩,
  ⟨some 6, none, .mov, [.t 51]⟩])
 (.ret))⟩
def cf_garmentref11_meet : Fn := ⟨4, 57, [.t 8], [.v .bool], none,
 .seq (.reg false [
  ⟨some 4, none, .box 0 t0, [.t 0]⟩,
  ⟨some 5, none, .box 4 t0, [.t 1]⟩,
  ⟨some 6, none, .box 8 t0, [.t 2]⟩,
  ⟨some 7, none, .box 12 t0, [.t 3]⟩,
  ⟨some 8, none, .mov, [.bool false]⟩])
 (.seq (.seq (.reg false [
  ⟨some 9, none, .load t0, [.t 4]⟩,
  ⟨some 10, none, .load t0, [.t 5]⟩,
  ⟨some 11, none, .load t0, [.t 6]⟩,
  ⟨some 12, none, .call 1012 (some 70) [.v .bool] false, [.t 9, .t 10, .t 11]⟩,
  ⟨some 13, none, .mov, [.t 12]⟩,
  ⟨some 14, (some (13, false)), .load t0, [.t 4]⟩,
  ⟨some 15, (some (13, false)), .load t0, [.t 5]⟩,
  ⟨some 16, (some (13, false)), .load t0, [.t 7]⟩,
  ⟨some 17, (some (13, false)), .call 1032 (some 70) [.v .bool] false, [.t 14, .t 15, .t 16]⟩,
  ⟨some 18, none, .pick, [.t 13, .bool true, .t 17]⟩,
  ⟨some 19, none, .mov, [.t 18]⟩,
  ⟨some 20, (some (19, false)), .load t0, [.t 6]⟩,
  ⟨some 21, (some (19, false)), .load t0, [.t 7]⟩,
  ⟨some 22, (some (19, false)), .load t0, [.t 4]⟩,
  ⟨some 23, (some (19, false)), .call 1056 (some 70) [.v .bool] false, [.t 20, .t 21, .t 22]⟩,
  ⟨some 24, none, .pick, [.t 19, .bool true, .t 23]⟩,
  ⟨some 25, none, .mov, [.t 24]⟩,
  ⟨some 26, (some (25, false)), .load t0, [.t 6]⟩,
  ⟨some 27, (some (25, false)), .load t0, [.t 7]⟩,
  ⟨some 28, (some (25, false)), .load t0, [.t 5]⟩,
  ⟨some 29, (some (25, false)), .call 1080 (some 70) [.v .bool] false, [.t 26, .t 27, .t 28]⟩,
  ⟨some 30, none, .pick, [.t 25, .bool true, .t 29]⟩])
 (.cond (.t 30) (.seq (.reg false [
  ⟨some 8, none, .mov, [.bool true]⟩])
 (.ret)) (.skip)))
 (.seq (.reg true [
  ⟨some 31, none, .load t0, [.t 4]⟩,
  ⟨some 32, none, .load t0, [.t 5]⟩,
  ⟨some 33, none, .load t0, [.t 6]⟩,
  ⟨some 34, none, .call 3012 (some 33) [.v tI] false, [.t 31, .t 32, .t 33]⟩,
  ⟨some 35, none, .call 3016 (some 72) [.v tI] false, [.t 34]⟩,
  ⟨some 36, none, .load t0, [.t 4]⟩,
  ⟨some 37, none, .load t0, [.t 5]⟩,
  ⟨some 38, none, .load t0, [.t 7]⟩,
  ⟨some 39, none, .call 3032 (some 33) [.v tI] false, [.t 36, .t 37, .t 38]⟩,
  ⟨some 40, none, .call 3036 (some 72) [.v tI] false, [.t 39]⟩,
  ⟨some 41, none, .bin .mul tI, [.t 35, .t 40]⟩,
  ⟨some 42, none, .bin .lss tI, [.t 41, .int .i64 0]⟩,
  ⟨some 43, none, .mov, [.t 42]⟩,
  ⟨some 44, (some (43, true)), .load t0, [.t 6]⟩,
  ⟨some 45, (some (43, true)), .load t0, [.t 7]⟩,
  ⟨some 46, (some (43, true)), .load t0, [.t 4]⟩,
  ⟨some 47, (some (43, true)), .call 3064 (some 33) [.v tI] false, [.t 44, .t 45, .t 46]⟩,
  ⟨some 48, (some (43, true)), .call 3068 (some 72) [.v tI] false, [.t 47]⟩,
  ⟨some 49, (some (43, true)), .load t0, [.t 6]⟩,
  ⟨some 50, (some (43, true)), .load t0, [.t 7]⟩,
  ⟨some 51, (some (43, true)), .load t0, [.t 5]⟩,
  ⟨some 52, (some (43, true)), .call 3084 (some 33) [.v tI] false, [.t 49, .t 50, .t 51]⟩,
  ⟨some 53, (some (43, true)), .call 3088 (some 72) [.v tI] false, [.t 52]⟩,
  ⟨some 54, (some (43, true)), .bin .mul tI, [.t 48, .t 53]⟩,
  ⟨some 55, (some (43, true)), .bin .lss tI, [.t 54, .int .i64 0]⟩,
  ⟨some 56, none, .pick, [.t 43, .t 55, .bool false]⟩,
  ⟨some 8, none, .mov, [.t 56]⟩])
 (.ret)))⟩
def cf_garmentref11_sign : Fn := ⟨1, 9, [.t 2], [.v tI], none,
 .seq (.reg false [
  ⟨some 2, none, .mov, [.int .i64 0]⟩])
 (.seq (.block 0 (.seq (.reg false [
  ⟨some 4, none, .mov, [.t 0]⟩,
  ⟨some 5, none, .bin .gtr tI, [.t 4, .int .i64 0]⟩,
  ⟨some 3, none, .mov, [.t 5]⟩])
 (.cond (.t 3) (.seq (.reg false [
  ⟨some 2, none, .mov, [.int .i64 1]⟩])
 (.ret)) (.seq (.reg false [
  ⟨some 7, none, .mov, [.t 0]⟩,
  ⟨some 8, none, .bin .lss tI, [.t 7, .int .i64 0]⟩,
  ⟨some 6, none, .mov, [.t 8]⟩])
 (.cond (.t 6) (.seq (.reg false [
  ⟨some 2, none, .mov, [.int .i64 (-1)]⟩])
 (.ret)) (.skip))))))
 (.seq (.reg false [
  ⟨some 2, none, .mov, [.int .i64 0]⟩])
 (.ret)))⟩
def cf_garmentlaw43_of : Fn := ⟨3, 26, [.t 6], [.v .bool], none,
 .seq (.reg false [
  ⟨some 6, none, .mov, [.bool false]⟩])
 (.seq (.seq (.reg false [
  ⟨some 9, none, .mov, [.t 0]⟩,
  ⟨some 10, none, .len, [.t 9]⟩,
  ⟨some 11, none, .mov, [.int .i64 0]⟩])
 (.block 0 (.loop 100000 [1, 2, 9, 10, 11] (.seq (.reg false [
  ⟨some 12, none, .bin .lss tI, [.t 11, .t 10]⟩])
 (.seq (.cond (.t 12) (.skip) (.exit 0))
 (.seq (.block 1 (.seq (.reg false [
  ⟨some 13, none, .iadr t8, [.t 9, .t 11]⟩,
  ⟨some 14, none, .load t8, [.t 13]⟩,
  ⟨some 8, none, .alloc 3008 t8, []⟩,
  ⟨none, none, .store t8, [.t 8, .t 14]⟩])
 (.seq (.reg false [
  ⟨some 15, none, .fadr t8 [true, false], [.t 8]⟩,
  ⟨some 16, none, .load tI, [.t 15]⟩,
  ⟨some 17, none, .mov, [.t 1]⟩,
  ⟨some 18, none, .bin .eql tI, [.t 16, .t 17]⟩,
  ⟨some 19, none, .mov, [.t 18]⟩,
  ⟨some 20, (some (19, true)), .fadr t8 [false], [.t 8]⟩,
  ⟨some 21, (some (19, true)), .load tI, [.t 20]⟩,
  ⟨some 22, (some (19, true)), .mov, [.t 2]⟩,
  ⟨some 23, (some (19, true)), .bin .eql tI, [.t 21, .t 22]⟩,
  ⟨some 24, none, .pick, [.t 19, .t 23, .bool false]⟩])
 (.cond (.t 24) (.seq (.reg false [
  ⟨some 6, none, .mov, [.bool true]⟩])
 (.ret)) (.skip)))))
 (.reg false [
  ⟨some 25, none, .bin .add tI, [.t 11, .int .i64 1]⟩,
  ⟨some 11, none, .mov, [.t 25]⟩])))))))
 (.seq (.reg false [
  ⟨some 6, none, .mov, [.bool false]⟩])
 (.ret)))⟩
def cf_garmentlaw43_RecutShade : Fn := ⟨3, 124, [.t 6], [.v .bool], none,
 .seq (.reg false [
  ⟨some 6, none, .mov, [.bool false]⟩])
 (.seq (.seq (.reg false [
  ⟨some 13, none, .mov, [.t 0]⟩,
  ⟨some 14, none, .mov, [.t 1]⟩,
  ⟨some 15, none, .call 1008 (some 46) [.v .bool] false, [.t 13, .t 14]⟩,
  ⟨some 16, none, .not, [.t 15]⟩,
  ⟨some 17, none, .mov, [.t 16]⟩,
  ⟨some 18, (some (17, false)), .mov, [.t 2]⟩,
  ⟨some 19, (some (17, false)), .len, [.t 18]⟩,
  ⟨some 20, (some (17, false)), .bin .gtr tI, [.t 19, .int .i64 30]⟩,
  ⟨some 21, none, .pick, [.t 17, .bool true, .t 20]⟩])
 (.cond (.t 21) (.seq (.reg false [
  ⟨some 22, none, .call 2000 (some 47) [.v .bool] false, []⟩,
  ⟨some 6, none, .mov, [.t 22]⟩])
 (.ret)) (.skip)))
 (.seq (.reg false [
  ⟨some 24, none, .mov, [.t 0]⟩,
  ⟨some 25, none, .mov, [.t 1]⟩,
  ⟨some 26, none, .mov, [.t 2]⟩,
  ⟨some 27, none, .call 3012 (some 48) [.o t6, .o t8, .v tI] false, [.t 24, .t 25, .t 26]⟩,
  ⟨some 23, none, .mov, [.t 27]⟩,
  ⟨some 28, none, .ext 0, [.t 23]⟩,
  ⟨some 29, none, .ext 1, [.t 23]⟩,
  ⟨some 30, none, .ext 2, [.t 23]⟩,
  ⟨some 7, none, .mov, [.t 28]⟩,
  ⟨some 8, none, .mov, [.t 29]⟩,
  ⟨some 9, none, .mov, [.t 30]⟩])
 (.seq (.seq (.reg false [
  ⟨some 31, none, .mov, [.t 9]⟩,
  ⟨some 32, none, .bin .neq tI, [.t 31, .int .i64 0]⟩])
 (.cond (.t 32) (.seq (.reg false [
  ⟨some 33, none, .mov, [.t 7]⟩,
  ⟨some 34, none, .len, [.t 33]⟩,
  ⟨some 35, none, .bin .eql tI, [.t 34, .int .i64 0]⟩,
  ⟨some 36, none, .mov, [.t 35]⟩,
  ⟨some 37, (some (36, true)), .mov, [.t 8]⟩,
  ⟨some 38, (some (36, true)), .len, [.t 37]⟩,
  ⟨some 39, (some (36, true)), .bin .eql tI, [.t 38, .int .i64 0]⟩,
  ⟨some 40, none, .pick, [.t 36, .t 39, .bool false]⟩,
  ⟨some 41, none, .mov, [.t 40]⟩,
  ⟨some 42, (some (41, true)), .call 5036 (some 47) [.v .bool] false, []⟩,
  ⟨some 43, none, .pick, [.t 41, .t 42, .bool false]⟩,
  ⟨some 6, none, .mov, [.t 43]⟩])
 (.ret)) (.skip)))
 (.seq (.seq (.reg false [
  ⟨some 44, none, .mov, [.t 7]⟩,
  ⟨some 45, none, .len, [.t 44]⟩,
  ⟨some 46, none, .mov, [.t 0]⟩,
  ⟨some 47, none, .len, [.t 46]⟩,
  ⟨some 48, none, .bin .neq tI, [.t 45, .t 47]⟩,
  ⟨some 49, none, .mov, [.t 48]⟩,
  ⟨some 50, (some (49, false)), .mov, [.t 8]⟩,
  ⟨some 51, (some (49, false)), .len, [.t 50]⟩,
  ⟨some 52, (some (49, false)), .mov, [.t 2]⟩,
  ⟨some 53, (some (49, false)), .len, [.t 52]⟩,
  ⟨some 54, (some (49, false)), .bin .neq tI, [.t 51, .t 53]⟩,
  ⟨some 55, none, .pick, [.t 49, .bool true, .t 54]⟩])
 (.cond (.t 55) (.seq (.reg false [
  ⟨some 6, none, .mov, [.bool false]⟩])
 (.ret)) (.skip)))
 (.seq (.seq (.reg false [
  ⟨some 56, none, .mov, [.t 0]⟩,
  ⟨some 57, none, .len, [.t 56]⟩,
  ⟨some 58, none, .mov, [.int .i64 0]⟩])
 (.block 0 (.loop 100000 [2, 7, 56, 57, 58] (.seq (.reg false [
  ⟨some 59, none, .bin .lss tI, [.t 58, .t 57]⟩])
 (.seq (.cond (.t 59) (.skip) (.exit 0))
 (.seq (.block 1 (.seq (.reg false [
  ⟨some 60, none, .mov, [.t 58]⟩,
  ⟨some 61, none, .iadr t6, [.t 56, .t 58]⟩,
  ⟨some 62, none, .load t6, [.t 61]⟩,
  ⟨some 11, none, .alloc 10012 t6, []⟩,
  ⟨some 10, none, .mov, [.t 60]⟩,
  ⟨none, none, .store t6, [.t 11, .t 62]⟩])
 (.seq (.reg false [
  ⟨some 63, none, .mov, [.t 7]⟩,
  ⟨some 64, none, .mov, [.t 10]⟩,
  ⟨some 65, none, .iadr t6, [.t 63, .t 64]⟩,
  ⟨some 66, none, .load t6, [.t 65]⟩,
  ⟨some 12, none, .alloc 11016 t6, []⟩,
  ⟨none, none, .store t6, [.t 12, .t 66]⟩])
 (.seq (.seq (.reg false [
  ⟨some 67, none, .load t6, [.t 11]⟩,
  ⟨some 68, none, .load t6, [.t 12]⟩,
  ⟨some 69, none, .call 12008 (some 63) [.v .bool] false, [.t 67, .t 68]⟩])
 (.cond (.t 69) (.exit 1) (.skip)))
 (.seq (.reg true [
  ⟨some 70, none, .fadr t6 [true, true, true, true, true], [.t 11]⟩,
  ⟨some 71, none, .load .bool, [.t 70]⟩,
  ⟨some 72, none, .not, [.t 71]⟩,
  ⟨some 73, none, .mov, [.t 72]⟩,
  ⟨some 74, (some (73, false)), .fadr t6 [true, true, true, true, true], [.t 12]⟩,
  ⟨some 75, (some (73, false)), .load .bool, [.t 74]⟩,
  ⟨some 76, none, .pick, [.t 73, .bool true, .t 75]⟩,
  ⟨some 77, none, .mov, [.t 76]⟩,
  ⟨some 78, (some (77, false)), .fadr t6 [false], [.t 12]⟩,
  ⟨some 79, (some (77, false)), .load tI, [.t 78]⟩,
  ⟨some 80, (some (77, false)), .fadr t6 [false], [.t 11]⟩,
  ⟨some 81, (some (77, false)), .load tI, [.t 80]⟩,
  ⟨some 82, (some (77, false)), .bin .neq tI, [.t 79, .t 81]⟩,
  ⟨some 83, none, .pick, [.t 77, .bool true, .t 82]⟩,
  ⟨some 84, none, .mov, [.t 83]⟩,
  ⟨some 85, (some (84, false)), .fadr t6 [true, false], [.t 12]⟩,
  ⟨some 86, (some (84, false)), .load tI, [.t 85]⟩,
  ⟨some 87, (some (84, false)), .fadr t6 [true, false], [.t 11]⟩,
  ⟨some 88, (some (84, false)), .load tI, [.t 87]⟩,
  ⟨some 89, (some (84, false)), .bin .neq tI, [.t 86, .t 88]⟩,
  ⟨some 90, none, .pick, [.t 84, .bool true, .t 89]⟩,
  ⟨some 91, none, .mov, [.t 90]⟩,
  ⟨some 92, (some (91, false)), .fadr t6 [true, true, false], [.t 12]⟩,
  ⟨some 93, (some (91, false)), .load tI, [.t 92]⟩,
  ⟨some 94, (some (91, false)), .fadr t6 [true, true, false], [.t 11]⟩,
  ⟨some 95, (some (91, false)), .load tI, [.t 94]⟩,
  ⟨some 96, (some (91, false)), .bin .neq tI, [.t 93, .t 95]⟩,
  ⟨some 97, none, .pick, [.t 91, .bool true, .t 96]⟩,
  ⟨some 98, none, .mov, [.t 97]⟩,
  ⟨some 99, (some (98, false)), .fadr t6 [true, true, true, false], [.t 12]⟩,
  ⟨some 100, (some (98, false)), .load tI, [.t 99]⟩,
  ⟨some 101, (some (98, false)), .fadr t6 [true, true, true, false], [.t 11]⟩,
  ⟨some 102, (some (98, false)), .load tI, [.t 101]⟩,
  ⟨some 103, (some (98, false)), .bin .neq tI, [.t 100, .t 102]⟩,
  ⟨some 104, none, .pick, [.t 98, .bool true, .t 103]⟩,
  ⟨some 105, none, .mov, [.t 104]⟩,
  ⟨some 106, (some (105, false)), .fadr t6 [true, true, true, true, false], [.t 12]⟩,
  ⟨some 107, (some (105, false)), .load (.sl tI), [.t 106]⟩,
  ⟨some 108, (some (105, false)), .len, [.t 107]⟩,
  ⟨some 109, (some (105, false)), .bin .neq tI, [.t 108, .int .i64 1]⟩,
  ⟨some 110, none, .pick, [.t 105, .bool true, .t 109]⟩,
  ⟨some 111, none, .mov, [.t 110]⟩,
  ⟨some 112, (some (111, false)), .mov, [.t 2]⟩,
  ⟨some 113, (some (111, false)), .fadr t6 [true, true, false], [.t 11]⟩,
  ⟨some 114, (some (111, false)), .load tI, [.t 113]⟩,
  ⟨some 115, (some (111, false)), .fadr t6 [true, true, true, true, false], [.t 12]⟩,
  ⟨some 116, (some (111, false)), .load (.sl tI), [.t 115]⟩,
  ⟨some 117, (some (111, false)), .iadr tI, [.t 116, .int .i64 0]⟩,
  ⟨some 118, (some (111, false)), .load tI, [.t 117]⟩,
  ⟨some 119, (some (111, false)), .call 13196 (some 75) [.v .bool] false, [.t 112, .t 114, .t 118]⟩,
  ⟨some 120, (some (111, false)), .not, [.t 119]⟩,
  ⟨some 121, none, .pick, [.t 111, .bool true, .t 120]⟩])
 (.cond (.t 121) (.seq (.reg false [
  ⟨some 6, none, .mov, [.bool false]⟩])
 (.ret)) (.skip)))))))
 (.reg false [
  ⟨some 122, none, .bin .add tI, [.t 58, .int .i64 1]⟩,
  ⟨some 58, none, .mov, [.t 122]⟩])))))))
 (.seq (.reg false [
  ⟨some 123, none, .call 16000 (some 47) [.v .bool] false, []⟩,
  ⟨some 6, none, .mov, [.t 123]⟩])
 (.ret)))))))⟩
end Pm
end
section
/- The table of the functions. -/
namespace Pm
open Go
set_option maxRecDepth 20000
set_option linter.unusedVariables false
def G : Nat → Option Fn := fun n =>
 cond (Nat.beq n 13) (some cf_polygon_Check) <|
 cond (Nat.beq n 14) (some cf_polygon_turn) <|
 cond (Nat.beq n 20) (some cf_polygon_inside) <|
 cond (Nat.beq n 21) (some cf_polygon_simple) <|
 cond (Nat.beq n 22) (some cf_polygon_sides) <|
 cond (Nat.beq n 23) (some cf_polygon_side_holds) <|
 cond (Nat.beq n 24) (some cf_polygon_side_meets) <|
 cond (Nat.beq n 25) (some cf_polygon_within) <|
 cond (Nat.beq n 26) (some cf_polygon_side_divides) <|
 cond (Nat.beq n 33) (some cf_garmentref11_Cross) <|
 cond (Nat.beq n 46) (some cf_garmentref43_Few) <|
 cond (Nat.beq n 47) (some cf_garmentlaw43_exampleHolds) <|
 cond (Nat.beq n 48) (some cf_recut_Recut) <|
 cond (Nat.beq n 50) (some cf_garmentref43_SameCuts) <|
 cond (Nat.beq n 51) (some cf_garmentref43_SameRests) <|
 cond (Nat.beq n 53) (some cf_recut_Assign) <|
 cond (Nat.beq n 54) (some cf_garmentref43_SameInts) <|
 cond (Nat.beq n 55) (some cf_recut_Needs) <|
 cond (Nat.beq n 56) (some cf_garmentref43_SameNeeds) <|
 cond (Nat.beq n 57) (some cf_slices_Clone_api_Rest_api_Rest) <|
 cond (Nat.beq n 58) (some cf_recut_Assign_1) <|
 cond (Nat.beq n 59) (some cf_slices_IndexFunc_api_Rest_api_Rest) <|
 cond (Nat.beq n 60) (some cf_recut_suits) <|
 cond (Nat.beq n 61) (some cf_polygon_Box) <|
 cond (Nat.beq n 62) (some cf_slices_Clone_int_int) <|
 cond (Nat.beq n 63) (some cf_garmentref43_SameCut) <|
 cond (Nat.beq n 67) (some cf_garmentref11_Check) <|
 cond (Nat.beq n 68) (some cf_garmentref11_Within) <|
 cond (Nat.beq n 69) (some cf_garmentref11_simple) <|
 cond (Nat.beq n 70) (some cf_garmentref11_Between) <|
 cond (Nat.beq n 71) (some cf_garmentref11_meet) <|
 cond (Nat.beq n 72) (some cf_garmentref11_sign) <|
 cond (Nat.beq n 75) (some cf_garmentlaw43_of) <|
 cond (Nat.beq n 76) (some cf_garmentlaw43_RecutShade) <| none
noncomputable def CG : CallF := limC G
end Pm
end
