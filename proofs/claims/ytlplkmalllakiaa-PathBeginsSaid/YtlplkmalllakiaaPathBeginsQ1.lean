/- Parts of the proof of PathBegins, joined: Cf0, Cf. -/
import Derived.Test.YtlplkmalllakiaaPathBeginsQ0
set_option linter.unusedVariables false
set_option linter.unusedSimpArgs false
section
/- The functions that the law reaches, in the plain form: written by a program of mine out of the translation. -/
namespace Pm
open Go
set_option maxRecDepth 20000
set_option linter.unusedVariables false
def cf_polygon_Check : Fn := ⟨1, 31, [.t 2], [.v tI], none,
 .seq (.reg false [
  ⟨some 2, none, .mov, [.int .i64 0]⟩])
 (.seq (.seq (.reg false [
  ⟨some 5, none, .mov, [.t 0]⟩,
  ⟨some 6, none, .len, [.t 5]⟩,
  ⟨some 7, none, .bin .gtr tI, [.t 6, .int .i64 40]⟩])
 (.cond (.t 7) (.seq (.reg false [
  ⟨some 2, none, .mov, [.int .i64 5]⟩])
 (.ret)) (.skip)))
 (.seq (.seq (.reg false [
  ⟨some 8, none, .mov, [.t 0]⟩,
  ⟨some 9, none, .len, [.t 8]⟩,
  ⟨some 10, none, .bin .lss tI, [.t 9, .int .i64 3]⟩])
 (.cond (.t 10) (.seq (.reg false [
  ⟨some 2, none, .mov, [.int .i64 11]⟩])
 (.ret)) (.skip)))
 (.seq (.seq (.reg false [
  ⟨some 11, none, .mov, [.t 0]⟩,
  ⟨some 12, none, .len, [.t 11]⟩,
  ⟨some 13, none, .mov, [.int .i64 0]⟩])
 (.block 0 (.loop 100000 [0, 11, 12, 13] (.seq (.reg false [
  ⟨some 14, none, .bin .lss tI, [.t 13, .t 12]⟩])
 (.seq (.cond (.t 14) (.skip) (.exit 0))
 (.seq (.block 1 (.seq (.reg false [
  ⟨some 15, none, .iadr t0, [.t 11, .t 13]⟩,
  ⟨some 16, none, .load t0, [.t 15]⟩,
  ⟨some 4, none, .alloc 7008 t0, []⟩,
  ⟨none, none, .store t0, [.t 4, .t 16]⟩])
 (.seq (.reg false [
  ⟨some 17, none, .fadr t0 [false], [.t 4]⟩,
  ⟨some 18, none, .load tI, [.t 17]⟩,
  ⟨some 19, none, .call 8008 (some 20) [.v .bool] false, [.t 18]⟩,
  ⟨some 20, none, .not, [.t 19]⟩,
  ⟨some 21, none, .mov, [.t 20]⟩,
  ⟨some 22, (some (21, false)), .fadr t0 [true], [.t 4]⟩,
  ⟨some 23, (some (21, false)), .load tI, [.t 22]⟩,
  ⟨some 24, (some (21, false)), .call 8028 (some 20) [.v .bool] false, [.t 23]⟩,
  ⟨some 25, (some (21, false)), .not, [.t 24]⟩,
  ⟨some 26, none, .pick, [.t 21, .bool true, .t 25]⟩])
 (.cond (.t 26) (.seq (.reg false [
  ⟨some 2, none, .mov, [.int .i64 3]⟩])
 (.ret)) (.skip)))))
 (.reg false [
  ⟨some 27, none, .bin .add tI, [.t 13, .int .i64 1]⟩,
  ⟨some 13, none, .mov, [.t 27]⟩])))))))
 (.seq (.seq (.reg false [
  ⟨some 28, none, .mov, [.t 0]⟩,
  ⟨some 29, none, .call 11004 (some 21) [.v .bool] false, [.t 28]⟩,
  ⟨some 30, none, .not, [.t 29]⟩])
 (.cond (.t 30) (.seq (.reg false [
  ⟨some 2, none, .mov, [.int .i64 11]⟩])
 (.ret)) (.skip)))
 (.seq (.reg false [
  ⟨some 2, none, .mov, [.int .i64 0]⟩])
 (.ret))))))⟩
def cf_polygon_turn : Fn := ⟨3, 30, [.t 6], [.v tI], none,
 .seq (.reg false [
  ⟨some 3, none, .box 0 t0, [.t 0]⟩,
  ⟨some 4, none, .box 4 t0, [.t 1]⟩,
  ⟨some 5, none, .box 8 t0, [.t 2]⟩,
  ⟨some 6, none, .mov, [.int .i64 0]⟩])
 (.seq (.reg false [
  ⟨some 7, none, .fadr t0 [false], [.t 4]⟩,
  ⟨some 8, none, .load tI, [.t 7]⟩,
  ⟨some 9, none, .fadr t0 [false], [.t 3]⟩,
  ⟨some 10, none, .load tI, [.t 9]⟩,
  ⟨some 11, none, .bin .sub tI, [.t 8, .t 10]⟩,
  ⟨some 12, none, .fadr t0 [true], [.t 5]⟩,
  ⟨some 13, none, .load tI, [.t 12]⟩,
  ⟨some 14, none, .fadr t0 [true], [.t 4]⟩,
  ⟨some 15, none, .load tI, [.t 14]⟩,
  ⟨some 16, none, .bin .sub tI, [.t 13, .t 15]⟩,
  ⟨some 17, none, .bin .mul tI, [.t 11, .t 16]⟩,
  ⟨some 18, none, .fadr t0 [true], [.t 4]⟩,
  ⟨some 19, none, .load tI, [.t 18]⟩,
  ⟨some 20, none, .fadr t0 [true], [.t 3]⟩,
  ⟨some 21, none, .load tI, [.t 20]⟩,
  ⟨some 22, none, .bin .sub tI, [.t 19, .t 21]⟩,
  ⟨some 23, none, .fadr t0 [false], [.t 5]⟩,
  ⟨some 24, none, .load tI, [.t 23]⟩,
  ⟨some 25, none, .fadr t0 [false], [.t 4]⟩,
  ⟨some 26, none, .load tI, [.t 25]⟩,
  ⟨some 27, none, .bin .sub tI, [.t 24, .t 26]⟩,
  ⟨some 28, none, .bin .mul tI, [.t 22, .t 27]⟩,
  ⟨some 29, none, .bin .sub tI, [.t 17, .t 28]⟩,
  ⟨some 6, none, .mov, [.t 29]⟩])
 (.ret))⟩
def cf_polygon_inside : Fn := ⟨1, 9, [.t 2], [.v .bool], none,
 .seq (.reg false [
  ⟨some 2, none, .mov, [.bool false]⟩])
 (.seq (.reg false [
  ⟨some 3, none, .mov, [.t 0]⟩,
  ⟨some 4, none, .bin .geq tI, [.t 3, .int .i64 (-1048576)]⟩,
  ⟨some 5, none, .mov, [.t 4]⟩,
  ⟨some 6, (some (5, true)), .mov, [.t 0]⟩,
  ⟨some 7, (some (5, true)), .bin .leq tI, [.t 6, .int .i64 1048576]⟩,
  ⟨some 8, none, .pick, [.t 5, .t 7, .bool false]⟩,
  ⟨some 2, none, .mov, [.t 8]⟩])
 (.ret))⟩
def cf_polygon_simple : Fn := ⟨1, 64, [.t 2], [.v .bool], none,
 .seq (.reg false [
  ⟨some 2, none, .mov, [.bool false]⟩])
 (.seq (.reg false [
  ⟨some 8, none, .mov, [.t 0]⟩,
  ⟨some 9, none, .call 1004 (some 22) [.o t1] false, [.t 8]⟩,
  ⟨some 3, none, .mov, [.t 9]⟩])
 (.seq (.seq (.reg false [
  ⟨some 10, none, .mov, [.t 3]⟩,
  ⟨some 11, none, .len, [.t 10]⟩,
  ⟨some 12, none, .mov, [.int .i64 0]⟩])
 (.block 0 (.loop 100000 [3, 10, 11, 12] (.seq (.reg false [
  ⟨some 13, none, .bin .lss tI, [.t 12, .t 11]⟩])
 (.seq (.cond (.t 13) (.skip) (.exit 0))
 (.seq (.block 1 (.seq (.reg false [
  ⟨some 14, none, .mov, [.t 12]⟩,
  ⟨some 15, none, .iadr t1, [.t 10, .t 12]⟩,
  ⟨some 16, none, .load t1, [.t 15]⟩,
  ⟨some 5, none, .alloc 4012 t1, []⟩,
  ⟨some 4, none, .mov, [.t 14]⟩,
  ⟨none, none, .store t1, [.t 5, .t 16]⟩])
 (.seq (.seq (.reg false [
  ⟨some 17, none, .fadr t1 [false], [.t 5]⟩,
  ⟨some 18, none, .load t0, [.t 17]⟩,
  ⟨some 19, none, .fadr t1 [true], [.t 5]⟩,
  ⟨some 20, none, .load t0, [.t 19]⟩,
  ⟨some 21, none, .bin .eql t0, [.t 18, .t 20]⟩])
 (.cond (.t 21) (.seq (.reg false [
  ⟨some 2, none, .mov, [.bool false]⟩])
 (.ret)) (.skip)))
 (.seq (.reg false [
  ⟨some 22, none, .mov, [.t 3]⟩,
  ⟨some 23, none, .mov, [.t 4]⟩,
  ⟨some 24, none, .bin .add tI, [.t 23, .int .i64 1]⟩,
  ⟨some 25, none, .mov, [.t 3]⟩,
  ⟨some 26, none, .len, [.t 25]⟩,
  ⟨some 27, none, .bin .rem tI, [.t 24, .t 26]⟩,
  ⟨some 28, none, .iadr t1, [.t 22, .t 27]⟩,
  ⟨some 29, none, .load t1, [.t 28]⟩,
  ⟨some 6, none, .alloc 7032 t1, []⟩,
  ⟨none, none, .store t1, [.t 6, .t 29]⟩])
 (.seq (.seq (.reg false [
  ⟨some 30, none, .load t1, [.t 5]⟩,
  ⟨some 31, none, .fadr t1 [true], [.t 6]⟩,
  ⟨some 32, none, .load t0, [.t 31]⟩,
  ⟨some 33, none, .call 8012 (some 23) [.v .bool] false, [.t 30, .t 32]⟩,
  ⟨some 34, none, .mov, [.t 33]⟩,
  ⟨some 35, (some (34, false)), .load t1, [.t 6]⟩,
  ⟨some 36, (some (34, false)), .fadr t1 [false], [.t 5]⟩,
  ⟨some 37, (some (34, false)), .load t0, [.t 36]⟩,
  ⟨some 38, (some (34, false)), .call 8032 (some 23) [.v .bool] false, [.t 35, .t 37]⟩,
  ⟨some 39, none, .pick, [.t 34, .bool true, .t 38]⟩])
 (.cond (.t 39) (.seq (.reg false [
  ⟨some 2, none, .mov, [.bool false]⟩])
 (.ret)) (.skip)))
 (.seq (.reg false [
  ⟨some 40, none, .mov, [.t 4]⟩,
  ⟨some 41, none, .bin .add tI, [.t 40, .int .i64 2]⟩,
  ⟨some 7, none, .mov, [.t 41]⟩])
 (.block 2 (.loop 200000 [3, 4, 5, 7, 10, 11, 12] (.seq (.seq (.reg false [
  ⟨some 42, none, .mov, [.t 7]⟩,
  ⟨some 43, none, .mov, [.t 3]⟩,
  ⟨some 44, none, .len, [.t 43]⟩,
  ⟨some 45, none, .bin .lss tI, [.t 42, .t 44]⟩])
 (.cond (.t 45) (.skip) (.exit 2)))
 (.seq (.block 3 (.seq (.seq (.reg false [
  ⟨some 48, none, .mov, [.t 4]⟩,
  ⟨some 49, none, .bin .eql tI, [.t 48, .int .i64 0]⟩,
  ⟨some 50, none, .mov, [.t 49]⟩,
  ⟨some 51, (some (50, true)), .mov, [.t 7]⟩,
  ⟨some 52, (some (50, true)), .mov, [.t 3]⟩,
  ⟨some 53, (some (50, true)), .len, [.t 52]⟩,
  ⟨some 54, (some (50, true)), .bin .sub tI, [.t 53, .int .i64 1]⟩,
  ⟨some 55, (some (50, true)), .bin .eql tI, [.t 51, .t 54]⟩,
  ⟨some 56, none, .pick, [.t 50, .t 55, .bool false]⟩])
 (.cond (.t 56) (.exit 3) (.skip)))
 (.seq (.reg true [
  ⟨some 57, none, .load t1, [.t 5]⟩,
  ⟨some 58, none, .mov, [.t 3]⟩,
  ⟨some 59, none, .mov, [.t 7]⟩,
  ⟨some 60, none, .iadr t1, [.t 58, .t 59]⟩,
  ⟨some 61, none, .load t1, [.t 60]⟩,
  ⟨some 62, none, .call 14020 (some 24) [.v .bool] false, [.t 57, .t 61]⟩])
 (.cond (.t 62) (.seq (.reg false [
  ⟨some 2, none, .mov, [.bool false]⟩])
 (.ret)) (.skip)))))
 (.reg false [
  ⟨some 46, none, .mov, [.t 7]⟩,
  ⟨some 47, none, .bin .add tI, [.t 46, .int .i64 1]⟩,
  ⟨some 7, none, .mov, [.t 47]⟩])))))))))))
 (.reg false [
  ⟨some 63, none, .bin .add tI, [.t 12, .int .i64 1]⟩,
  ⟨some 12, none, .mov, [.t 63]⟩])))))))
 (.seq (.reg false [
  ⟨some 2, none, .mov, [.bool true]⟩])
 (.ret))))⟩
def cf_polygon_sides : Fn := ⟨1, 31, [.t 2], [.o t1], none,
 .seq (.reg false [
  ⟨some 2, none, .own0 0 t1, []⟩])
 (.seq (.reg false [
  ⟨some 6, none, .mov, [.t 0]⟩,
  ⟨some 7, none, .len, [.t 6]⟩,
  ⟨some 8, none, .mksl 1008 t1 8796093022208, [.t 7, .t 7]⟩,
  ⟨some 3, none, .mov, [.t 8]⟩])
 (.seq (.seq (.reg false [
  ⟨some 9, none, .mov, [.t 0]⟩,
  ⟨some 10, none, .len, [.t 9]⟩,
  ⟨some 11, none, .mov, [.int .i64 0]⟩])
 (.block 0 (.loop 100000 [0, 3, 9, 10, 11] (.seq (.reg false [
  ⟨some 12, none, .bin .lss tI, [.t 11, .t 10]⟩])
 (.seq (.cond (.t 12) (.skip) (.exit 0))
 (.seq (.block 1 (.seq (.reg false [
  ⟨some 13, none, .mov, [.t 11]⟩,
  ⟨some 14, none, .iadr t0, [.t 9, .t 11]⟩,
  ⟨some 15, none, .load t0, [.t 14]⟩,
  ⟨some 5, none, .alloc 4012 t0, []⟩,
  ⟨some 4, none, .mov, [.t 13]⟩,
  ⟨none, none, .store t0, [.t 5, .t 15]⟩])
 (.reg true [
  ⟨some 16, none, .mov, [.t 3]⟩,
  ⟨some 17, none, .mov, [.t 4]⟩,
  ⟨some 18, none, .load t0, [.t 5]⟩,
  ⟨some 19, none, .mov, [.t 0]⟩,
  ⟨some 20, none, .mov, [.t 4]⟩,
  ⟨some 21, none, .bin .add tI, [.t 20, .int .i64 1]⟩,
  ⟨some 22, none, .mov, [.t 0]⟩,
  ⟨some 23, none, .len, [.t 22]⟩,
  ⟨some 24, none, .bin .rem tI, [.t 21, .t 23]⟩,
  ⟨some 25, none, .iadr t0, [.t 19, .t 24]⟩,
  ⟨some 26, none, .load t0, [.t 25]⟩,
  ⟨some 27, none, .build t1 [([false], t0), ([true], t0)], [.t 18, .t 26]⟩,
  ⟨some 28, none, .iadr t1, [.t 16, .t 17]⟩,
  ⟨none, none, .store t1, [.t 28, .t 27]⟩])))
 (.reg false [
  ⟨some 29, none, .bin .add tI, [.t 11, .int .i64 1]⟩,
  ⟨some 11, none, .mov, [.t 29]⟩])))))))
 (.seq (.reg false [
  ⟨some 30, none, .mov, [.t 3]⟩,
  ⟨some 2, none, .mov, [.t 30]⟩])
 (.ret))))⟩
def cf_polygon_side_holds : Fn := ⟨2, 34, [.t 4], [.v .bool], none,
 .seq (.reg false [
  ⟨some 2, none, .box 0 t1, [.t 0]⟩,
  ⟨some 3, none, .box 4 t0, [.t 1]⟩,
  ⟨some 4, none, .mov, [.bool false]⟩])
 (.seq (.reg false [
  ⟨some 5, none, .fadr t1 [false], [.t 2]⟩,
  ⟨some 6, none, .load t0, [.t 5]⟩,
  ⟨some 7, none, .fadr t1 [true], [.t 2]⟩,
  ⟨some 8, none, .load t0, [.t 7]⟩,
  ⟨some 9, none, .load t0, [.t 3]⟩,
  ⟨some 10, none, .call 1020 (some 14) [.v tI] false, [.t 6, .t 8, .t 9]⟩,
  ⟨some 11, none, .bin .eql tI, [.t 10, .int .i64 0]⟩,
  ⟨some 12, none, .mov, [.t 11]⟩,
  ⟨some 13, (some (12, true)), .fadr t0 [false], [.t 3]⟩,
  ⟨some 14, (some (12, true)), .load tI, [.t 13]⟩,
  ⟨some 15, (some (12, true)), .fadr t1 [false], [.t 2]⟩,
  ⟨some 16, (some (12, true)), .fadr t0 [false], [.t 15]⟩,
  ⟨some 17, (some (12, true)), .load tI, [.t 16]⟩,
  ⟨some 18, (some (12, true)), .fadr t1 [true], [.t 2]⟩,
  ⟨some 19, (some (12, true)), .fadr t0 [false], [.t 18]⟩,
  ⟨some 20, (some (12, true)), .load tI, [.t 19]⟩,
  ⟨some 21, (some (12, true)), .call 1064 (some 25) [.v .bool] false, [.t 14, .t 17, .t 20]⟩,
  ⟨some 22, none, .pick, [.t 12, .t 21, .bool false]⟩,
  ⟨some 23, none, .mov, [.t 22]⟩,
  ⟨some 24, (some (23, true)), .fadr t0 [true], [.t 3]⟩,
  ⟨some 25, (some (23, true)), .load tI, [.t 24]⟩,
  ⟨some 26, (some (23, true)), .fadr t1 [false], [.t 2]⟩,
  ⟨some 27, (some (23, true)), .fadr t0 [true], [.t 26]⟩,
  ⟨some 28, (some (23, true)), .load tI, [.t 27]⟩,
  ⟨some 29, (some (23, true)), .fadr t1 [true], [.t 2]⟩,
  ⟨some 30, (some (23, true)), .fadr t0 [true], [.t 29]⟩,
  ⟨some 31, (some (23, true)), .load tI, [.t 30]⟩,
  ⟨some 32, (some (23, true)), .call 1108 (some 25) [.v .bool] false, [.t 25, .t 28, .t 31]⟩,
  ⟨some 33, none, .pick, [.t 23, .t 32, .bool false]⟩,
  ⟨some 4, none, .mov, [.t 33]⟩])
 (.ret))⟩
def cf_polygon_side_meets : Fn := ⟨2, 43, [.t 4], [.v .bool], none,
 .seq (.reg false [
  ⟨some 2, none, .box 0 t1, [.t 0]⟩,
  ⟨some 3, none, .box 4 t1, [.t 1]⟩,
  ⟨some 4, none, .mov, [.bool false]⟩])
 (.seq (.reg false [
  ⟨some 5, none, .load t1, [.t 2]⟩,
  ⟨some 6, none, .fadr t1 [false], [.t 3]⟩,
  ⟨some 7, none, .load t0, [.t 6]⟩,
  ⟨some 8, none, .call 1012 (some 23) [.v .bool] false, [.t 5, .t 7]⟩,
  ⟨some 9, none, .mov, [.t 8]⟩,
  ⟨some 10, (some (9, false)), .load t1, [.t 2]⟩,
  ⟨some 11, (some (9, false)), .fadr t1 [true], [.t 3]⟩,
  ⟨some 12, (some (9, false)), .load t0, [.t 11]⟩,
  ⟨some 13, (some (9, false)), .call 1032 (some 23) [.v .bool] false, [.t 10, .t 12]⟩,
  ⟨some 14, none, .pick, [.t 9, .bool true, .t 13]⟩,
  ⟨some 15, none, .mov, [.t 14]⟩,
  ⟨some 16, (some (15, false)), .load t1, [.t 3]⟩,
  ⟨some 17, (some (15, false)), .fadr t1 [false], [.t 2]⟩,
  ⟨some 18, (some (15, false)), .load t0, [.t 17]⟩,
  ⟨some 19, (some (15, false)), .call 1056 (some 23) [.v .bool] false, [.t 16, .t 18]⟩,
  ⟨some 20, none, .pick, [.t 15, .bool true, .t 19]⟩,
  ⟨some 21, none, .mov, [.t 20]⟩,
  ⟨some 22, (some (21, false)), .load t1, [.t 3]⟩,
  ⟨some 23, (some (21, false)), .fadr t1 [true], [.t 2]⟩,
  ⟨some 24, (some (21, false)), .load t0, [.t 23]⟩,
  ⟨some 25, (some (21, false)), .call 1080 (some 23) [.v .bool] false, [.t 22, .t 24]⟩,
  ⟨some 26, none, .pick, [.t 21, .bool true, .t 25]⟩,
  ⟨some 27, none, .mov, [.t 26]⟩,
  ⟨some 28, (some (27, false)), .load t1, [.t 2]⟩,
  ⟨some 29, (some (27, false)), .fadr t1 [false], [.t 3]⟩,
  ⟨some 30, (some (27, false)), .load t0, [.t 29]⟩,
  ⟨some 31, (some (27, false)), .fadr t1 [true], [.t 3]⟩,
  ⟨some 32, (some (27, false)), .load t0, [.t 31]⟩,
  ⟨some 33, (some (27, false)), .call 1112 (some 26) [.v .bool] false, [.t 28, .t 30, .t 32]⟩,
  ⟨some 34, (some (27, false)), .mov, [.t 33]⟩,
  ⟨some 35, (some (34, true)), .load t1, [.t 3]⟩,
  ⟨some 36, (some (34, true)), .fadr t1 [false], [.t 2]⟩,
  ⟨some 37, (some (34, true)), .load t0, [.t 36]⟩,
  ⟨some 38, (some (34, true)), .fadr t1 [true], [.t 2]⟩,
  ⟨some 39, (some (34, true)), .load t0, [.t 38]⟩,
  ⟨some 40, (some (34, true)), .call 1140 (some 26) [.v .bool] false, [.t 35, .t 37, .t 39]⟩,
  ⟨some 41, (some (27, false)), .pick, [.t 34, .t 40, .bool false]⟩,
  ⟨some 42, none, .pick, [.t 27, .bool true, .t 41]⟩,
  ⟨some 4, none, .mov, [.t 42]⟩])
 (.ret))⟩
def cf_polygon_within : Fn := ⟨3, 19, [.t 6], [.v .bool], none,
 .seq (.reg false [
  ⟨some 6, none, .mov, [.bool false]⟩])
 (.seq (.reg false [
  ⟨some 7, none, .mov, [.t 1]⟩,
  ⟨some 8, none, .mov, [.t 2]⟩,
  ⟨some 9, none, .mm false .i64, [.t 7, .t 8]⟩,
  ⟨some 10, none, .mov, [.t 0]⟩,
  ⟨some 11, none, .bin .leq tI, [.t 9, .t 10]⟩,
  ⟨some 12, none, .mov, [.t 11]⟩,
  ⟨some 13, (some (12, true)), .mov, [.t 0]⟩,
  ⟨some 14, (some (12, true)), .mov, [.t 1]⟩,
  ⟨some 15, (some (12, true)), .mov, [.t 2]⟩,
  ⟨some 16, (some (12, true)), .mm true .i64, [.t 14, .t 15]⟩,
  ⟨some 17, (some (12, true)), .bin .leq tI, [.t 13, .t 16]⟩,
  ⟨some 18, none, .pick, [.t 12, .t 17, .bool false]⟩,
  ⟨some 6, none, .mov, [.t 18]⟩])
 (.ret))⟩
def cf_polygon_side_divides : Fn := ⟨3, 35, [.t 6], [.v .bool], none,
 .seq (.reg false [
  ⟨some 3, none, .box 0 t1, [.t 0]⟩,
  ⟨some 4, none, .box 4 t0, [.t 1]⟩,
  ⟨some 5, none, .box 8 t0, [.t 2]⟩,
  ⟨some 6, none, .mov, [.bool false]⟩])
 (.seq (.reg true [
  ⟨some 9, none, .fadr t1 [false], [.t 3]⟩,
  ⟨some 10, none, .load t0, [.t 9]⟩,
  ⟨some 11, none, .fadr t1 [true], [.t 3]⟩,
  ⟨some 12, none, .load t0, [.t 11]⟩,
  ⟨some 13, none, .load t0, [.t 4]⟩,
  ⟨some 14, none, .call 1020 (some 14) [.v tI] false, [.t 10, .t 12, .t 13]⟩,
  ⟨some 15, none, .fadr t1 [false], [.t 3]⟩,
  ⟨some 16, none, .load t0, [.t 15]⟩,
  ⟨some 17, none, .fadr t1 [true], [.t 3]⟩,
  ⟨some 18, none, .load t0, [.t 17]⟩,
  ⟨some 19, none, .load t0, [.t 5]⟩,
  ⟨some 20, none, .call 1044 (some 14) [.v tI] false, [.t 16, .t 18, .t 19]⟩,
  ⟨some 7, none, .mov, [.t 14]⟩,
  ⟨some 8, none, .mov, [.t 20]⟩])
 (.seq (.reg false [
  ⟨some 21, none, .mov, [.t 7]⟩,
  ⟨some 22, none, .bin .lss tI, [.t 21, .int .i64 0]⟩,
  ⟨some 23, none, .mov, [.t 22]⟩,
  ⟨some 24, (some (23, true)), .mov, [.t 8]⟩,
  ⟨some 25, (some (23, true)), .bin .gtr tI, [.t 24, .int .i64 0]⟩,
  ⟨some 26, none, .pick, [.t 23, .t 25, .bool false]⟩,
  ⟨some 27, none, .mov, [.t 26]⟩,
  ⟨some 28, (some (27, false)), .mov, [.t 7]⟩,
  ⟨some 29, (some (27, false)), .bin .gtr tI, [.t 28, .int .i64 0]⟩,
  ⟨some 30, (some (27, false)), .mov, [.t 29]⟩,
  ⟨some 31, (some (30, true)), .mov, [.t 8]⟩,
  ⟨some 32, (some (30, true)), .bin .lss tI, [.t 31, .int .i64 0]⟩,
  ⟨some 33, (some (27, false)), .pick, [.t 30, .t 32, .bool false]⟩,
  ⟨some 34, none, .pick, [.t 27, .bool true, .t 33]⟩,
  ⟨some 6, none, .mov, [.t 34]⟩])
 (.ret)))⟩
def cf_garmentref11_Cross : Fn := ⟨3, 30, [.t 6], [.v tI], none,
 .seq (.reg false [
  ⟨some 3, none, .box 0 t0, [.t 0]⟩,
  ⟨some 4, none, .box 4 t0, [.t 1]⟩,
  ⟨some 5, none, .box 8 t0, [.t 2]⟩,
  ⟨some 6, none, .mov, [.int .i64 0]⟩])
 (.seq (.reg false [
  ⟨some 7, none, .fadr t0 [false], [.t 4]⟩,
  ⟨some 8, none, .load tI, [.t 7]⟩,
  ⟨some 9, none, .fadr t0 [false], [.t 3]⟩,
  ⟨some 10, none, .load tI, [.t 9]⟩,
  ⟨some 11, none, .bin .sub tI, [.t 8, .t 10]⟩,
  ⟨some 12, none, .fadr t0 [true], [.t 5]⟩,
  ⟨some 13, none, .load tI, [.t 12]⟩,
  ⟨some 14, none, .fadr t0 [true], [.t 3]⟩,
  ⟨some 15, none, .load tI, [.t 14]⟩,
  ⟨some 16, none, .bin .sub tI, [.t 13, .t 15]⟩,
  ⟨some 17, none, .bin .mul tI, [.t 11, .t 16]⟩,
  ⟨some 18, none, .fadr t0 [true], [.t 4]⟩,
  ⟨some 19, none, .load tI, [.t 18]⟩,
  ⟨some 20, none, .fadr t0 [true], [.t 3]⟩,
  ⟨some 21, none, .load tI, [.t 20]⟩,
  ⟨some 22, none, .bin .sub tI, [.t 19, .t 21]⟩,
  ⟨some 23, none, .fadr t0 [false], [.t 5]⟩,
  ⟨some 24, none, .load tI, [.t 23]⟩,
  ⟨some 25, none, .fadr t0 [false], [.t 3]⟩,
  ⟨some 26, none, .load tI, [.t 25]⟩,
  ⟨some 27, none, .bin .sub tI, [.t 24, .t 26]⟩,
  ⟨some 28, none, .bin .mul tI, [.t 22, .t 27]⟩,
  ⟨some 29, none, .bin .sub tI, [.t 17, .t 28]⟩,
  ⟨some 6, none, .mov, [.t 29]⟩])
 (.ret))⟩
def cf_slices_Clone_int_int : Fn := ⟨1, 8, [.t 2], [.o tI], some tI,
 .seq (.reg false [
  ⟨some 2, none, .own0 0 tI, []⟩])
 (.seq (.seq (.reg false [
  ⟨some 3, none, .mov, [.t 0]⟩,
  ⟨some 4, none, .isNil false, [.t 3, .nil]⟩])
 (.cond (.t 4) (.seq (.reg false [
  ⟨some 2, none, .own0 2000 tI, []⟩])
 (.ret)) (.skip)))
 (.seq (.reg false [
  ⟨some 5, none, .bsl 3000 tI 0 [], []⟩,
  ⟨some 6, none, .mov, [.t 0]⟩,
  ⟨some 7, none, .app 3008 tI 17592186044416, [.t 5, .t 6]⟩,
  ⟨some 2, none, .mov, [.t 7]⟩])
 (.ret)))⟩
def cf_garmentref11_Check : Fn := ⟨1, 25, [.t 2], [.v tI], none,
 .seq (.reg false [
  ⟨some 2, none, .mov, [.int .i64 0]⟩])
 (.seq (.seq (.reg false [
  ⟨some 4, none, .mov, [.t 0]⟩,
  ⟨some 5, none, .len, [.t 4]⟩,
  ⟨some 6, none, .bin .gtr tI, [.t 5, .int .i64 40]⟩])
 (.cond (.t 6) (.seq (.reg false [
  ⟨some 2, none, .mov, [.int .i64 5]⟩])
 (.ret)) (.skip)))
 (.seq (.seq (.reg false [
  ⟨some 7, none, .mov, [.t 0]⟩,
  ⟨some 8, none, .len, [.t 7]⟩,
  ⟨some 9, none, .bin .lss tI, [.t 8, .int .i64 3]⟩])
 (.cond (.t 9) (.seq (.reg false [
  ⟨some 2, none, .mov, [.int .i64 11]⟩])
 (.ret)) (.skip)))
 (.seq (.seq (.reg false [
  ⟨some 3, none, .mov, [.int .i64 0]⟩])
 (.block 0 (.loop 100000 [0, 3] (.seq (.seq (.reg false [
  ⟨some 10, none, .mov, [.t 3]⟩,
  ⟨some 11, none, .mov, [.t 0]⟩,
  ⟨some 12, none, .len, [.t 11]⟩,
  ⟨some 13, none, .bin .lss tI, [.t 10, .t 12]⟩])
 (.cond (.t 13) (.skip) (.exit 0)))
 (.seq (.block 1 (.seq (.reg false [
  ⟨some 16, none, .mov, [.t 0]⟩,
  ⟨some 17, none, .mov, [.t 3]⟩,
  ⟨some 18, none, .iadr t0, [.t 16, .t 17]⟩,
  ⟨some 19, none, .load t0, [.t 18]⟩,
  ⟨some 20, none, .call 8016 (some 68) [.v .bool] false, [.t 19, .int .i64 1048576]⟩,
  ⟨some 21, none, .not, [.t 20]⟩])
 (.cond (.t 21) (.seq (.reg false [
  ⟨some 2, none, .mov, [.int .i64 3]⟩])
 (.ret)) (.skip))))
 (.reg false [
  ⟨some 14, none, .mov, [.t 3]⟩,
  ⟨some 15, none, .bin .add tI, [.t 14, .int .i64 1]⟩,
  ⟨some 3, none, .mov, [.t 15]⟩]))))))
 (.seq (.seq (.reg false [
  ⟨some 22, none, .mov, [.t 0]⟩,
  ⟨some 23, none, .call 10004 (some 69) [.v .bool] false, [.t 22]⟩,
  ⟨some 24, none, .not, [.t 23]⟩])
 (.cond (.t 24) (.seq (.reg false [
  ⟨some 2, none, .mov, [.int .i64 11]⟩])
 (.ret)) (.skip)))
 (.seq (.reg false [
  ⟨some 2, none, .mov, [.int .i64 0]⟩])
 (.ret))))))⟩
def cf_garmentref11_Within : Fn := ⟨2, 29, [.t 4], [.v .bool], none,
 .seq (.reg false [
  ⟨some 2, none, .box 0 t0, [.t 0]⟩,
  ⟨some 4, none, .mov, [.bool false]⟩])
 (.seq (.reg false [
  ⟨some 5, none, .fadr t0 [false], [.t 2]⟩,
  ⟨some 6, none, .load tI, [.t 5]⟩,
  ⟨some 7, none, .mov, [.t 1]⟩,
  ⟨some 8, none, .neg .i64, [.t 7]⟩,
  ⟨some 9, none, .bin .geq tI, [.t 6, .t 8]⟩,
  ⟨some 10, none, .mov, [.t 9]⟩,
  ⟨some 11, (some (10, true)), .fadr t0 [false], [.t 2]⟩,
  ⟨some 12, (some (10, true)), .load tI, [.t 11]⟩,
  ⟨some 13, (some (10, true)), .mov, [.t 1]⟩,
  ⟨some 14, (some (10, true)), .bin .leq tI, [.t 12, .t 13]⟩,
  ⟨some 15, none, .pick, [.t 10, .t 14, .bool false]⟩,
  ⟨some 16, none, .mov, [.t 15]⟩,
  ⟨some 17, (some (16, true)), .fadr t0 [true], [.t 2]⟩,
  ⟨some 18, (some (16, true)), .load tI, [.t 17]⟩,
  ⟨some 19, (some (16, true)), .mov, [.t 1]⟩,
  ⟨some 20, (some (16, true)), .neg .i64, [.t 19]⟩,
  ⟨some 21, (some (16, true)), .bin .geq tI, [.t 18, .t 20]⟩,
  ⟨some 22, none, .pick, [.t 16, .t 21, .bool false]⟩,
  ⟨some 23, none, .mov, [.t 22]⟩,
  ⟨some 24, (some (23, true)), .fadr t0 [true], [.t 2]⟩,
  ⟨some 25, (some (23, true)), .load tI, [.t 24]⟩,
  ⟨some 26, (some (23, true)), .mov, [.t 1]⟩,
  ⟨some 27, (some (23, true)), .bin .leq tI, [.t 25, .t 26]⟩,
  ⟨some 28, none, .pick, [.t 23, .t 27, .bool false]⟩,
  ⟨some 4, none, .mov, [.t 28]⟩])
 (.ret))⟩
def cf_garmentref11_simple : Fn := ⟨1, 78, [.t 2], [.v .bool], none,
 .seq (.reg false [
  ⟨some 2, none, .mov, [.bool false]⟩])
 (.seq (.reg false [
  ⟨some 9, none, .mov, [.t 0]⟩,
  ⟨some 10, none, .len, [.t 9]⟩,
  ⟨some 3, none, .mov, [.t 10]⟩])
 (.seq (.seq (.reg false [
  ⟨some 4, none, .mov, [.int .i64 0]⟩])
 (.block 0 (.loop 100000 [0, 3, 4] (.seq (.seq (.reg false [
  ⟨some 11, none, .mov, [.t 4]⟩,
  ⟨some 12, none, .mov, [.t 3]⟩,
  ⟨some 13, none, .bin .lss tI, [.t 11, .t 12]⟩])
 (.cond (.t 13) (.skip) (.exit 0)))
 (.seq (.block 1 (.seq (.reg true [
  ⟨some 16, none, .mov, [.t 0]⟩,
  ⟨some 17, none, .mov, [.t 4]⟩,
  ⟨some 18, none, .iadr t0, [.t 16, .t 17]⟩,
  ⟨some 19, none, .load t0, [.t 18]⟩,
  ⟨some 20, none, .mov, [.t 0]⟩,
  ⟨some 21, none, .mov, [.t 4]⟩,
  ⟨some 22, none, .bin .add tI, [.t 21, .int .i64 1]⟩,
  ⟨some 23, none, .mov, [.t 3]⟩,
  ⟨some 24, none, .bin .rem tI, [.t 22, .t 23]⟩,
  ⟨some 25, none, .iadr t0, [.t 20, .t 24]⟩,
  ⟨some 26, none, .loadi t0, [.t 25]⟩,
  ⟨some 5, none, .alloc 5044 t0, []⟩,
  ⟨some 6, none, .alloc 5048 t0, []⟩,
  ⟨none, none, .store t0, [.t 5, .t 19]⟩,
  ⟨none, none, .store t0, [.t 6, .t 26]⟩])
 (.seq (.reg false [
  ⟨some 27, none, .mov, [.t 0]⟩,
  ⟨some 28, none, .mov, [.t 4]⟩,
  ⟨some 29, none, .bin .add tI, [.t 28, .int .i64 2]⟩,
  ⟨some 30, none, .mov, [.t 3]⟩,
  ⟨some 31, none, .bin .rem tI, [.t 29, .t 30]⟩,
  ⟨some 32, none, .iadr t0, [.t 27, .t 31]⟩,
  ⟨some 33, none, .load t0, [.t 32]⟩,
  ⟨some 7, none, .alloc 6028 t0, []⟩,
  ⟨none, none, .store t0, [.t 7, .t 33]⟩])
 (.seq (.seq (.reg false [
  ⟨some 34, none, .load t0, [.t 5]⟩,
  ⟨some 35, none, .load t0, [.t 6]⟩,
  ⟨some 36, none, .bin .eql t0, [.t 34, .t 35]⟩,
  ⟨some 37, none, .mov, [.t 36]⟩,
  ⟨some 38, (some (37, false)), .load t0, [.t 5]⟩,
  ⟨some 39, (some (37, false)), .load t0, [.t 6]⟩,
  ⟨some 40, (some (37, false)), .load t0, [.t 7]⟩,
  ⟨some 41, (some (37, false)), .call 7028 (some 70) [.v .bool] false, [.t 38, .t 39, .t 40]⟩,
  ⟨some 42, none, .pick, [.t 37, .bool true, .t 41]⟩,
  ⟨some 43, none, .mov, [.t 42]⟩,
  ⟨some 44, (some (43, false)), .load t0, [.t 6]⟩,
  ⟨some 45, (some (43, false)), .load t0, [.t 7]⟩,
  ⟨some 46, (some (43, false)), .load t0, [.t 5]⟩,
  ⟨some 47, (some (43, false)), .call 7052 (some 70) [.v .bool] false, [.t 44, .t 45, .t 46]⟩,
  ⟨some 48, none, .pick, [.t 43, .bool true, .t 47]⟩])
 (.cond (.t 48) (.seq (.reg false [
  ⟨some 2, none, .mov, [.bool false]⟩])
 (.ret)) (.skip)))
 (.seq (.reg false [
  ⟨some 49, none, .mov, [.t 4]⟩,
  ⟨some 50, none, .bin .add tI, [.t 49, .int .i64 2]⟩,
  ⟨some 8, none, .mov, [.t 50]⟩])
 (.block 2 (.loop 200000 [0, 3, 4, 5, 6, 8] (.seq (.seq (.reg false [
  ⟨some 51, none, .mov, [.t 8]⟩,
  ⟨some 52, none, .mov, [.t 3]⟩,
  ⟨some 53, none, .bin .lss tI, [.t 51, .t 52]⟩])
 (.cond (.t 53) (.skip) (.exit 2)))
 (.seq (.block 3 (.seq (.reg true [
  ⟨some 56, none, .mov, [.t 8]⟩,
  ⟨some 57, none, .bin .add tI, [.t 56, .int .i64 1]⟩,
  ⟨some 58, none, .mov, [.t 3]⟩,
  ⟨some 59, none, .bin .rem tI, [.t 57, .t 58]⟩,
  ⟨some 60, none, .mov, [.t 4]⟩,
  ⟨some 61, none, .bin .neq tI, [.t 59, .t 60]⟩,
  ⟨some 62, none, .mov, [.t 61]⟩,
  ⟨some 63, (some (62, true)), .load t0, [.t 5]⟩,
  ⟨some 64, (some (62, true)), .load t0, [.t 6]⟩,
  ⟨some 65, (some (62, true)), .mov, [.t 0]⟩,
  ⟨some 66, (some (62, true)), .mov, [.t 8]⟩,
  ⟨some 67, (some (62, true)), .iadr t0, [.t 65, .t 66]⟩,
  ⟨some 68, (some (62, true)), .load t0, [.t 67]⟩,
  ⟨some 69, (some (62, true)), .mov, [.t 0]⟩,
  ⟨some 70, (some (62, true)), .mov, [.t 8]⟩,
  ⟨some 71, (some (62, true)), .bin .add tI, [.t 70, .int .i64 1]⟩,
  ⟨some 72, (some (62, true)), .mov, [.t 3]⟩,
  ⟨some 73, (some (62, true)), .bin .rem tI, [.t 71, .t 72]⟩,
  ⟨some 74, (some (62, true)), .iadr t0, [.t 69, .t 73]⟩,
  ⟨some 75, (some (62, true)), .load t0, [.t 74]⟩,
  ⟨some 76, (some (62, true)), .call 12080 (some 71) [.v .bool] false, [.t 63, .t 64, .t 68, .t 75]⟩,
  ⟨some 77, none, .pick, [.t 62, .t 76, .bool false]⟩])
 (.cond (.t 77) (.seq (.reg false [
  ⟨some 2, none, .mov, [.bool false]⟩])
 (.ret)) (.skip))))
 (.reg false [
  ⟨some 54, none, .mov, [.t 8]⟩,
  ⟨some 55, none, .bin .add tI, [.t 54, .int .i64 1]⟩,
  ⟨some 8, none, .mov, [.t 55]⟩]))))))))))
 (.reg false [
  ⟨some 14, none, .mov, [.t 4]⟩,
  ⟨some 15, none, .bin .add tI, [.t 14, .int .i64 1]⟩,
  ⟨some 4, none, .mov, [.t 15]⟩]))))))
 (.seq (.reg false [
  ⟨some 2, none, .mov, [.bool true]⟩])
 (.ret))))⟩
def cf_garmentref11_Between : Fn := ⟨3, 52, [.t 6], [.v .bool], none,
 .seq (.reg false [
  ⟨some 3, none, .box 0 t0, [.t 0]⟩,
  ⟨some 4, none, .box 4 t0, [.t 1]⟩,
  ⟨some 5, none, .box 8 t0, [.t 2]⟩,
  ⟨some 6, none, .mov, [.bool false]⟩])
 (.seq (.reg false [
  ⟨some 7, none, .load t0, [.t 3]⟩,
  ⟨some 8, none, .load t0, [.t 4]⟩,
  ⟨some 9, none, .load t0, [.t 5]⟩,
  ⟨some 10, none, .call 1012 (some 33) [.v tI] false, [.t 7, .t 8, .t 9]⟩,
  ⟨some 11, none, .bin .eql tI, [.t 10, .int .i64 0]⟩,
  ⟨some 12, none, .mov, [.t 11]⟩,
  ⟨some 13, (some (12, true)), .fadr t0 [false], [.t 3]⟩,
  ⟨some 14, (some (12, true)), .load tI, [.t 13]⟩,
  ⟨some 15, (some (12, true)), .fadr t0 [false], [.t 4]⟩,
  ⟨some 16, (some (12, true)), .load tI, [.t 15]⟩,
  ⟨some 17, (some (12, true)), .mm false .i64, [.t 14, .t 16]⟩,
  ⟨some 18, (some (12, true)), .fadr t0 [false], [.t 5]⟩,
  ⟨some 19, (some (12, true)), .load tI, [.t 18]⟩,
  ⟨some 20, (some (12, true)), .bin .leq tI, [.t 17, .t 19]⟩,
  ⟨some 21, none, .pick, [.t 12, .t 20, .bool false]⟩,
  ⟨some 22, none, .mov, [.t 21]⟩,
  ⟨some 23, (some (22, true)), .fadr t0 [false], [.t 5]⟩,
  ⟨some 24, (some (22, true)), .load tI, [.t 23]⟩,
  ⟨some 25, (some (22, true)), .fadr t0 [false], [.t 3]⟩,
  ⟨some 26, (some (22, true)), .load tI, [.t 25]⟩,
  ⟨some 27, (some (22, true)), .fadr t0 [false], [.t 4]⟩,
  ⟨some 28, (some (22, true)), .load tI, [.t 27]⟩,
  ⟨some 29, (some (22, true)), .mm true .i64, [.t 26, .t 28]⟩,
  ⟨some 30, (some (22, true)), .bin .leq tI, [.t 24, .t 29]⟩,
  ⟨some 31, none, .pick, [.t 22, .t 30, .bool false]⟩,
  ⟨some 32, none, .mov, [.t 31]⟩,
  ⟨some 33, (some (32, true)), .fadr t0 [true], [.t 3]⟩,
  ⟨some 34, (some (32, true)), .load tI, [.t 33]⟩,
  ⟨some 35, (some (32, true)), .fadr t0 [true], [.t 4]⟩,
  ⟨some 36, (some (32, true)), .load tI, [.t 35]⟩,
  ⟨some 37, (some (32, true)), .mm false .i64, [.t 34, .t 36]⟩,
  ⟨some 38, (some (32, true)), .fadr t0 [true], [.t 5]⟩,
  ⟨some 39, (some (32, true)), .load tI, [.t 38]⟩,
  ⟨some 40, (some (32, true)), .bin .leq tI, [.t 37, .t 39]⟩,
  ⟨some 41, none, .pick, [.t 32, .t 40, .bool false]⟩,
  ⟨some 42, none, .mov, [.t 41]⟩,
  ⟨some 43, (some (42, true)), .fadr t0 [true], [.t 5]⟩,
  ⟨some 44, (some (42, true)), .load tI, [.t 43]⟩,
  ⟨some 45, (some (42, true)), .fadr t0 [true], [.t 3]⟩,
  ⟨some 46, (some (42, true)), .load tI, [.t 45]⟩,
  ⟨some 47, (some (42, true)), .fadr t0 [true], [.t 4]⟩,
  ⟨some 48, (some (42, true)), .load tI, [.t 47]⟩,
  ⟨some 49, (some (42, true)), .mm true .i64, [.t 46, .t 48]⟩,
  ⟨some 50, (some (42, true)), .bin .leq tI, [.t 44, .t 49]⟩,
  ⟨some 51, none, .pick, [.t 42, .t 50, .bool false]⟩,
  ⟨some 6, none, .mov, [.t 51]⟩])
 (.ret))⟩
def cf_garmentref11_meet : Fn := ⟨4, 57, [.t 8], [.v .bool], none,
 .seq (.reg false [
  ⟨some 4, none, .box 0 t0, [.t 0]⟩,
  ⟨some 5, none, .box 4 t0, [.t 1]⟩,
  ⟨some 6, none, .box 8 t0, [.t 2]⟩,
  ⟨some 7, none, .box 12 t0, [.t 3]⟩,
  ⟨some 8, none, .mov, [.bool false]⟩])
 (.seq (.seq (.reg false [
  ⟨some 9, none, .load t0, [.t 4]⟩,
  ⟨some 10, none, .load t0, [.t 5]⟩,
  ⟨some 11, none, .load t0, [.t 6]⟩,
  ⟨some 12, none, .call 1012 (some 70) [.v .bool] false, [.t 9, .t 10, .t 11]⟩,
  ⟨some 13, none, .mov, [.t 12]⟩,
  ⟨some 14, (some (13, false)), .load t0, [.t 4]⟩,
  ⟨some 15, (some (13, false)), .load t0, [.t 5]⟩,
  ⟨some 16, (some (13, false)), .load t0, [.t 7]⟩,
  ⟨some 17, (some (13, false)), .call 1032 (some 70) [.v .bool] false, [.t 14, .t 15, .t 16]⟩,
  ⟨some 18, none, .pick, [.t 13, .bool true, .t 17]⟩,
  ⟨some 19, none, .mov, [.t 18]⟩,
  ⟨some 20, (some (19, false)), .load t0, [.t 6]⟩,
  ⟨some 21, (some (19, false)), .load t0, [.t 7]⟩,
  ⟨some 22, (some (19, false)), .load t0, [.t 4]⟩,
  ⟨some 23, (some (19, false)), .call 1056 (some 70) [.v .bool] false, [.t 20, .t 21, .t 22]⟩,
  ⟨some 24, none, .pick, [.t 19, .bool true, .t 23]⟩,
  ⟨some 25, none, .mov, [.t 24]⟩,
  ⟨some 26, (some (25, false)), .load t0, [.t 6]⟩,
  ⟨some 27, (some (25, false)), .load t0, [.t 7]⟩,
  ⟨some 28, (some (25, false)), .load t0, [.t 5]⟩,
  ⟨some 29, (some (25, false)), .call 1080 (some 70) [.v .bool] false, [.t 26, .t 27, .t 28]⟩,
  ⟨some 30, none, .pick, [.t 25, .bool true, .t 29]⟩])
 (.cond (.t 30) (.seq (.reg false [
  ⟨some 8, none, .mov, [.bool true]⟩])
 (.ret)) (.skip)))
 (.seq (.reg true [
  ⟨some 31, none, .load t0, [.t 4]⟩,
  ⟨some 32, none, .load t0, [.t 5]⟩,
  ⟨some 33, none, .load t0, [.t 6]⟩,
  ⟨some 34, none, .call 3012 (some 33) [.v tI] false, [.t 31, .t 32, .t 33]⟩,
  ⟨some 35, none, .call 3016 (some 72) [.v tI] false, [.t 34]⟩,
  ⟨some 36, none, .load t0, [.t 4]⟩,
  ⟨some 37, none, .load t0, [.t 5]⟩,
  ⟨some 38, none, .load t0, [.t 7]⟩,
  ⟨some 39, none, .call 3032 (some 33) [.v tI] false, [.t 36, .t 37, .t 38]⟩,
  ⟨some 40, none, .call 3036 (some 72) [.v tI] false, [.t 39]⟩,
  ⟨some 41, none, .bin .mul tI, [.t 35, .t 40]⟩,
  ⟨some 42, none, .bin .lss tI, [.t 41, .int .i64 0]⟩,
  ⟨some 43, none, .mov, [.t 42]⟩,
  ⟨some 44, (some (43, true)), .load t0, [.t 6]⟩,
  ⟨some 45, (some (43, true)), .load t0, [.t 7]⟩,
  ⟨some 46, (some (43, true)), .load t0, [.t 4]⟩,
  ⟨some 47, (some (43, true)), .call 3064 (some 33) [.v tI] false, [.t 44, .t 45, .t 46]⟩,
  ⟨some 48, (some (43, true)), .call 3068 (some 72) [.v tI] false, [.t 47]⟩,
  ⟨some 49, (some (43, true)), .load t0, [.t 6]⟩,
  ⟨some 50, (some (43, true)), .load t0, [.t 7]⟩,
  ⟨some 51, (some (43, true)), .load t0, [.t 5]⟩,
  ⟨some 52, (some (43, true)), .call 3084 (some 33) [.v tI] false, [.t 49, .t 50, .t 51]⟩,
  ⟨some 53, (some (43, true)), .call 3088 (some 72) [.v tI] false, [.t 52]⟩,
  ⟨some 54, (some (43, true)), .bin .mul tI, [.t 48, .t 53]⟩,
  ⟨some 55, (some (43, true)), .bin .lss tI, [.t 54, .int .i64 0]⟩,
  ⟨some 56, none, .pick, [.t 43, .t 55, .bool false]⟩,
  ⟨some 8, none, .mov, [.t 56]⟩])
 (.ret)))⟩
def cf_garmentref11_sign : Fn := ⟨1, 9, [.t 2], [.v tI], none,
 .seq (.reg false [
  ⟨some 2, none, .mov, [.int .i64 0]⟩])
 (.seq (.block 0 (.seq (.reg false [
  ⟨some 4, none, .mov, [.t 0]⟩,
  ⟨some 5, none, .bin .gtr tI, [.t 4, .int .i64 0]⟩,
  ⟨some 3, none, .mov, [.t 5]⟩])
 (.cond (.t 3) (.seq (.reg false [
  ⟨some 2, none, .mov, [.int .i64 1]⟩])
 (.ret)) (.seq (.reg false [
  ⟨some 7, none, .mov, [.t 0]⟩,
  ⟨some 8, none, .bin .lss tI, [.t 7, .int .i64 0]⟩,
  ⟨some 6, none, .mov, [.t 8]⟩])
 (.cond (.t 6) (.seq (.reg false [
  ⟨some 2, none, .mov, [.int .i64 (-1)]⟩])
 (.ret)) (.skip))))))
 (.seq (.reg false [
  ⟨some 2, none, .mov, [.int .i64 0]⟩])
 (.ret)))⟩
def cf_garmentref41_Light : Fn := ⟨1, 23, [.t 2], [.v .bool], none,
 .seq (.reg false [
  ⟨some 2, none, .mov, [.bool false]⟩])
 (.seq (.seq (.reg false [
  ⟨some 3, none, .mov, [.int .i64 0]⟩])
 (.block 0 (.loop 100000 [0, 3] (.seq (.seq (.reg false [
  ⟨some 4, none, .mov, [.t 3]⟩,
  ⟨some 5, none, .mov, [.t 0]⟩,
  ⟨some 6, none, .len, [.t 5]⟩,
  ⟨some 7, none, .bin .lss tI, [.t 4, .t 6]⟩,
  ⟨some 8, none, .mov, [.t 7]⟩,
  ⟨some 9, (some (8, true)), .mov, [.t 3]⟩,
  ⟨some 10, (some (8, true)), .bin .lss tI, [.t 9, .int .i64 70]⟩,
  ⟨some 11, none, .pick, [.t 8, .t 10, .bool false]⟩])
 (.cond (.t 11) (.skip) (.exit 0)))
 (.seq (.block 1 (.seq (.reg false [
  ⟨some 14, none, .mov, [.t 0]⟩,
  ⟨some 15, none, .mov, [.t 3]⟩,
  ⟨some 16, none, .iadr (.sl t0), [.t 14, .t 15]⟩,
  ⟨some 17, none, .load (.sl t0), [.t 16]⟩,
  ⟨some 18, none, .len, [.t 17]⟩,
  ⟨some 19, none, .bin .gtr tI, [.t 18, .int .i64 60]⟩])
 (.cond (.t 19) (.seq (.reg false [
  ⟨some 2, none, .mov, [.bool false]⟩])
 (.ret)) (.skip))))
 (.reg false [
  ⟨some 12, none, .mov, [.t 3]⟩,
  ⟨some 13, none, .bin .add tI, [.t 12, .int .i64 1]⟩,
  ⟨some 3, none, .mov, [.t 13]⟩]))))))
 (.seq (.reg false [
  ⟨some 20, none, .mov, [.t 0]⟩,
  ⟨some 21, none, .len, [.t 20]⟩,
  ⟨some 22, none, .bin .leq tI, [.t 21, .int .i64 70]⟩,
  ⟨some 2, none, .mov, [.t 22]⟩])
 (.ret)))⟩
def cf_garmentlaw41_alive : Fn := ⟨0, 60, [.t 0], [.v .bool], none,
 .seq (.reg false [
  ⟨some 0, none, .mov, [.bool false]⟩])
 (.seq (.reg false [
  ⟨some 10, none, .call 1000 (some 107) [.o (.sl t0)] false, []⟩,
  ⟨some 11, none, .bsl 1004 tI 3 [0, 1, 2], [.int .i64 0, .int .i64 1, .int .i64 2]⟩,
  ⟨some 12, none, .call 1008 (some 104) [.v tI, .v tI] false, [.t 10, .t 11]⟩,
  ⟨some 9, none, .mov, [.t 12]⟩,
  ⟨some 13, none, .ext 0, [.t 9]⟩,
  ⟨some 14, none, .ext 1, [.t 9]⟩,
  ⟨some 1, none, .mov, [.t 13]⟩,
  ⟨some 2, none, .mov, [.t 14]⟩])
 (.seq (.reg false [
  ⟨some 16, none, .call 2000 (some 107) [.o (.sl t0)] false, []⟩,
  ⟨some 17, none, .call 2004 (some 108) [.o tI, .v tI] false, [.t 16]⟩,
  ⟨some 15, none, .mov, [.t 17]⟩,
  ⟨some 18, none, .ext 0, [.t 15]⟩,
  ⟨some 19, none, .ext 1, [.t 15]⟩,
  ⟨some 3, none, .mov, [.t 18]⟩,
  ⟨some 4, none, .mov, [.t 19]⟩])
 (.seq (.reg false [
  ⟨some 21, none, .call 3000 (some 107) [.o (.sl t0)] false, []⟩,
  ⟨some 22, none, .bsl 3004 tI 3 [0, 1, 2], [.int .i64 2, .int .i64 0, .int .i64 1]⟩,
  ⟨some 23, none, .call 3008 (some 109) [.v (.sl tI), .v tI] false, [.t 21, .t 22]⟩,
  ⟨some 20, none, .mov, [.t 23]⟩,
  ⟨some 24, none, .ext 0, [.t 20]⟩,
  ⟨some 25, none, .ext 1, [.t 20]⟩,
  ⟨some 5, none, .mov, [.t 24]⟩,
  ⟨some 6, none, .mov, [.t 25]⟩])
 (.seq (.reg false [
  ⟨some 27, none, .call 4000 (some 107) [.o (.sl t0)] false, []⟩,
  ⟨some 28, none, .bsl 4004 tI 3 [0, 1, 2], [.int .i64 0, .int .i64 1, .int .i64 1]⟩,
  ⟨some 29, none, .call 4008 (some 104) [.v tI, .v tI] false, [.t 27, .t 28]⟩,
  ⟨some 26, none, .mov, [.t 29]⟩,
  ⟨some 30, none, .ext 0, [.t 26]⟩,
  ⟨some 31, none, .ext 1, [.t 26]⟩,
  ⟨some 7, none, .mov, [.t 30]⟩,
  ⟨some 8, none, .mov, [.t 31]⟩])
 (.seq (.reg false [
  ⟨some 32, none, .mov, [.t 2]⟩,
  ⟨some 33, none, .bin .eql tI, [.t 32, .int .i64 0]⟩,
  ⟨some 34, none, .mov, [.t 33]⟩,
  ⟨some 35, (some (34, true)), .mov, [.t 4]⟩,
  ⟨some 36, (some (34, true)), .bin .eql tI, [.t 35, .int .i64 0]⟩,
  ⟨some 37, none, .pick, [.t 34, .t 36, .bool false]⟩,
  ⟨some 38, none, .mov, [.t 37]⟩,
  ⟨some 39, (some (38, true)), .mov, [.t 6]⟩,
  ⟨some 40, (some (38, true)), .bin .eql tI, [.t 39, .int .i64 0]⟩,
  ⟨some 41, none, .pick, [.t 38, .t 40, .bool false]⟩,
  ⟨some 42, none, .mov, [.t 41]⟩,
  ⟨some 43, (some (42, true)), .mov, [.t 8]⟩,
  ⟨some 44, (some (42, true)), .bin .eql tI, [.t 43, .int .i64 1]⟩,
  ⟨some 45, none, .pick, [.t 42, .t 44, .bool false]⟩,
  ⟨some 46, none, .mov, [.t 45]⟩,
  ⟨some 47, (some (46, true)), .mov, [.t 1]⟩,
  ⟨some 48, (some (46, true)), .bin .eql tI, [.t 47, .int .i64 19]⟩,
  ⟨some 49, none, .pick, [.t 46, .t 48, .bool false]⟩,
  ⟨some 50, none, .mov, [.t 49]⟩,
  ⟨some 51, (some (50, true)), .mov, [.t 3]⟩,
  ⟨some 52, (some (50, true)), .bsl 5080 tI 3 [0, 1, 2], [.int .i64 1, .int .i64 0, .int .i64 2]⟩,
  ⟨some 53, (some (50, true)), .call 5084 (some 110) [.v .bool] false, [.t 51, .t 52]⟩,
  ⟨some 54, none, .pick, [.t 50, .t 53, .bool false]⟩,
  ⟨some 55, none, .mov, [.t 54]⟩,
  ⟨some 56, (some (55, true)), .mov, [.t 5]⟩,
  ⟨some 57, (some (55, true)), .bsl 5100 tI 3 [0, 1, 2], [.int .i64 1, .int .i64 0, .int .i64 2]⟩,
  ⟨some 58, (some (55, true)), .call 5104 (some 110) [.v .bool] false, [.t 56, .t 57]⟩,
  ⟨some 59, none, .pick, [.t 55, .t 58, .bool false]⟩,
  ⟨some 0, none, .mov, [.t 59]⟩])
 (.ret))))))⟩
def cf_path_Travel : Fn := ⟨2, 41, [.t 4, .t 5], [.v tI, .v tI], none,
 .seq (.reg false [
  ⟨some 4, none, .mov, [.int .i64 0]⟩,
  ⟨some 5, none, .mov, [.int .i64 0]⟩])
 (.seq (.seq (.reg false [
  ⟨some 11, none, .mov, [.t 0]⟩,
  ⟨some 12, none, .mov, [.t 1]⟩,
  ⟨some 13, none, .call 1008 (some 112) [.v tI] false, [.t 11, .t 12]⟩,
  ⟨some 6, none, .mov, [.t 13]⟩])
 (.seq (.reg false [
  ⟨some 14, none, .mov, [.t 6]⟩,
  ⟨some 15, none, .bin .neq tI, [.t 14, .int .i64 0]⟩])
 (.cond (.t 15) (.seq (.reg false [
  ⟨some 16, none, .mov, [.t 6]⟩,
  ⟨some 4, none, .mov, [.int .i64 0]⟩,
  ⟨some 5, none, .mov, [.t 16]⟩])
 (.ret)) (.skip))))
 (.seq (.reg false [
  ⟨some 7, none, .alloc 4000 t0, []⟩])
 (.seq (.reg false [
  ⟨some 8, none, .mov, [.int .i64 0]⟩])
 (.seq (.seq (.reg false [
  ⟨some 17, none, .mov, [.t 1]⟩,
  ⟨some 18, none, .len, [.t 17]⟩,
  ⟨some 19, none, .mov, [.int .i64 0]⟩])
 (.block 0 (.loop 100000 [0, 7, 8, 17, 18, 19] (.seq (.reg false [
  ⟨some 20, none, .bin .lss tI, [.t 19, .t 18]⟩])
 (.seq (.cond (.t 20) (.skip) (.exit 0))
 (.seq (.block 1 (.seq (.reg false [
  ⟨some 21, none, .iadr tI, [.t 17, .t 19]⟩,
  ⟨some 22, none, .load tI, [.t 21]⟩,
  ⟨some 10, none, .mov, [.t 22]⟩])
 (.seq (.reg true [
  ⟨some 23, none, .mov, [.t 8]⟩,
  ⟨some 24, none, .load t0, [.t 7]⟩,
  ⟨some 25, none, .mov, [.t 0]⟩,
  ⟨some 26, none, .mov, [.t 10]⟩,
  ⟨some 27, none, .iadr (.sl t0), [.t 25, .t 26]⟩,
  ⟨some 28, none, .load (.sl t0), [.t 27]⟩,
  ⟨some 29, none, .iadr t0, [.t 28, .int .i64 0]⟩,
  ⟨some 30, none, .load t0, [.t 29]⟩,
  ⟨some 31, none, .call 9032 (some 113) [.v tI] false, [.t 24, .t 30]⟩,
  ⟨some 32, none, .bin .add tI, [.t 23, .t 31]⟩,
  ⟨some 8, none, .mov, [.t 32]⟩])
 (.reg false [
  ⟨some 33, none, .mov, [.t 0]⟩,
  ⟨some 34, none, .mov, [.t 10]⟩,
  ⟨some 35, none, .iadr (.sl t0), [.t 33, .t 34]⟩,
  ⟨some 36, none, .load (.sl t0), [.t 35]⟩,
  ⟨some 37, none, .iadr t0, [.t 36, .int .i64 0]⟩,
  ⟨some 38, none, .load t0, [.t 37]⟩,
  ⟨none, none, .store t0, [.t 7, .t 38]⟩]))))
 (.reg false [
  ⟨some 39, none, .bin .add tI, [.t 19, .int .i64 1]⟩,
  ⟨some 19, none, .mov, [.t 39]⟩])))))))
 (.seq (.reg false [
  ⟨some 40, none, .mov, [.t 8]⟩,
  ⟨some 4, none, .mov, [.t 40]⟩,
  ⟨some 5, none, .mov, [.int .i64 0]⟩])
 (.ret))))))⟩
def cf_garmentlaw41_three : Fn := ⟨0, 5, [.t 0], [.o (.sl t0)], none,
 .seq (.reg false [
  ⟨some 0, none, .own0 0 (.sl t0), []⟩])
 (.seq (.reg false [
  ⟨some 1, none, .call 1000 (some 111) [.o t0] false, [.int .i64 5, .int .i64 0]⟩,
  ⟨some 2, none, .call 1004 (some 111) [.o t0] false, [.int .i64 2, .int .i64 2]⟩,
  ⟨some 3, none, .call 1008 (some 111) [.o t0] false, [.int .i64 9, .int .i64 0]⟩,
  ⟨some 4, none, .bsl 1012 (.sl t0) 3 [0, 1, 2], [.t 1, .t 2, .t 3]⟩,
  ⟨some 0, none, .mov, [.t 4]⟩])
 (.ret))⟩
def cf_path_Greedy : Fn := ⟨1, 61, [.t 2, .t 3], [.o tI, .v tI], none,
 .seq (.reg false [
  ⟨some 2, none, .own0 0 tI, []⟩,
  ⟨some 3, none, .mov, [.int .i64 0]⟩])
 (.seq (.seq (.reg false [
  ⟨some 9, none, .mov, [.t 0]⟩,
  ⟨some 10, none, .call 1004 (some 114) [.v tI] false, [.t 9]⟩,
  ⟨some 4, none, .mov, [.t 10]⟩])
 (.seq (.reg false [
  ⟨some 11, none, .mov, [.t 4]⟩,
  ⟨some 12, none, .bin .neq tI, [.t 11, .int .i64 0]⟩])
 (.cond (.t 12) (.seq (.reg false [
  ⟨some 13, none, .mov, [.t 4]⟩,
  ⟨some 2, none, .own0 3004 tI, []⟩,
  ⟨some 3, none, .mov, [.t 13]⟩])
 (.ret)) (.skip))))
 (.seq (.reg false [
  ⟨some 5, none, .alloc 4000 t0, []⟩])
 (.seq (.reg false [
  ⟨some 6, none, .own0 5000 tI, []⟩])
 (.seq (.seq (.reg false [
  ⟨some 14, none, .mov, [.t 0]⟩,
  ⟨some 15, none, .len, [.t 14]⟩,
  ⟨some 16, none, .mov, [.int .i64 0]⟩])
 (.block 0 (.loop 100000 [0, 5, 6, 15, 16] (.seq (.reg false [
  ⟨some 17, none, .bin .lss tI, [.t 16, .t 15]⟩])
 (.seq (.cond (.t 17) (.skip) (.exit 0))
 (.seq (.block 1 (.seq (.reg false [
  ⟨some 7, none, .mov, [.int .i64 (-1)]⟩])
 (.seq (.seq (.reg false [
  ⟨some 18, none, .mov, [.t 0]⟩,
  ⟨some 19, none, .len, [.t 18]⟩,
  ⟨some 20, none, .mov, [.int .i64 0]⟩])
 (.block 2 (.loop 200000 [0, 5, 6, 7, 15, 16, 19, 20] (.seq (.reg false [
  ⟨some 21, none, .bin .lss tI, [.t 20, .t 19]⟩])
 (.seq (.cond (.t 21) (.skip) (.exit 2))
 (.seq (.block 3 (.seq (.reg false [
  ⟨some 22, none, .mov, [.t 20]⟩,
  ⟨some 8, none, .mov, [.t 22]⟩])
 (.seq (.seq (.reg false [
  ⟨some 23, none, .mov, [.t 6]⟩,
  ⟨some 24, none, .mov, [.t 8]⟩,
  ⟨some 25, none, .call 12008 (some 115) [.v .bool] false, [.t 23, .t 24]⟩])
 (.cond (.t 25) (.exit 3) (.skip)))
 (.seq (.reg true [
  ⟨some 26, none, .mov, [.t 7]⟩,
  ⟨some 27, none, .bin .lss tI, [.t 26, .int .i64 0]⟩,
  ⟨some 28, none, .mov, [.t 27]⟩,
  ⟨some 29, (some (28, false)), .load t0, [.t 5]⟩,
  ⟨some 30, (some (28, false)), .mov, [.t 0]⟩,
  ⟨some 31, (some (28, false)), .mov, [.t 8]⟩,
  ⟨some 32, (some (28, false)), .iadr (.sl t0), [.t 30, .t 31]⟩,
  ⟨some 33, (some (28, false)), .load (.sl t0), [.t 32]⟩,
  ⟨some 34, (some (28, false)), .iadr t0, [.t 33, .int .i64 0]⟩,
  ⟨some 35, (some (28, false)), .load t0, [.t 34]⟩,
  ⟨some 36, (some (28, false)), .call 13040 (some 113) [.v tI] false, [.t 29, .t 35]⟩,
  ⟨some 37, (some (28, false)), .load t0, [.t 5]⟩,
  ⟨some 38, (some (28, false)), .mov, [.t 0]⟩,
  ⟨some 39, (some (28, false)), .mov, [.t 7]⟩,
  ⟨some 40, (some (28, false)), .iadr (.sl t0), [.t 38, .t 39]⟩,
  ⟨some 41, (some (28, false)), .load (.sl t0), [.t 40]⟩,
  ⟨some 42, (some (28, false)), .iadr t0, [.t 41, .int .i64 0]⟩,
  ⟨some 43, (some (28, false)), .load t0, [.t 42]⟩,
  ⟨some 44, (some (28, false)), .call 13072 (some 113) [.v tI] false, [.t 37, .t 43]⟩,
  ⟨some 45, (some (28, false)), .bin .lss tI, [.t 36, .t 44]⟩,
  ⟨some 46, none, .pick, [.t 28, .bool true, .t 45]⟩])
 (.cond (.t 46) (.reg false [
  ⟨some 47, none, .mov, [.t 8]⟩,
  ⟨some 7, none, .mov, [.t 47]⟩]) (.skip))))))
 (.reg false [
  ⟨some 48, none, .bin .add tI, [.t 20, .int .i64 1]⟩,
  ⟨some 20, none, .mov, [.t 48]⟩])))))))
 (.seq (.reg false [
  ⟨some 49, none, .mov, [.t 6]⟩,
  ⟨some 50, none, .mov, [.t 7]⟩,
  ⟨some 51, none, .bsl 16008 tI 1 [0], [.t 50]⟩,
  ⟨some 52, none, .app 16012 tI 17592186044416, [.t 49, .t 51]⟩,
  ⟨some 6, none, .mov, [.t 52]⟩])
 (.reg false [
  ⟨some 53, none, .mov, [.t 0]⟩,
  ⟨some 54, none, .mov, [.t 7]⟩,
  ⟨some 55, none, .iadr (.sl t0), [.t 53, .t 54]⟩,
  ⟨some 56, none, .load (.sl t0), [.t 55]⟩,
  ⟨some 57, none, .iadr t0, [.t 56, .int .i64 0]⟩,
  ⟨some 58, none, .load t0, [.t 57]⟩,
  ⟨none, none, .store t0, [.t 5, .t 58]⟩])))))
 (.reg false [
  ⟨some 59, none, .bin .add tI, [.t 16, .int .i64 1]⟩,
  ⟨some 16, none, .mov, [.t 59]⟩])))))))
 (.seq (.reg false [
  ⟨some 60, none, .mov, [.t 6]⟩,
  ⟨some 2, none, .mov, [.t 60]⟩,
  ⟨some 3, none, .mov, [.int .i64 0]⟩])
 (.ret))))))⟩
def cf_path_Improve : Fn := ⟨2, 31, [.t 4, .t 5], [.v (.sl tI), .v tI], none,
 .seq (.reg false [
  ⟨some 4, none, .own0 0 tI, []⟩,
  ⟨some 5, none, .mov, [.int .i64 0]⟩])
 (.seq (.seq (.reg false [
  ⟨some 10, none, .mov, [.t 0]⟩,
  ⟨some 11, none, .mov, [.t 1]⟩,
  ⟨some 12, none, .call 1008 (some 112) [.v tI] false, [.t 10, .t 11]⟩,
  ⟨some 6, none, .mov, [.t 12]⟩])
 (.seq (.reg false [
  ⟨some 13, none, .mov, [.t 6]⟩,
  ⟨some 14, none, .bin .neq tI, [.t 13, .int .i64 0]⟩])
 (.cond (.t 14) (.seq (.reg false [
  ⟨some 15, none, .mov, [.t 6]⟩,
  ⟨some 4, none, .own0 3004 tI, []⟩,
  ⟨some 5, none, .mov, [.t 15]⟩])
 (.ret)) (.skip))))
 (.seq (.reg false [
  ⟨some 16, none, .mov, [.t 1]⟩,
  ⟨some 17, none, .call 4004 (some 62) [.o tI] false, [.t 16]⟩,
  ⟨some 7, none, .mov, [.t 17]⟩])
 (.seq (.seq (.reg false [
  ⟨some 18, none, .mov, [.int .i64 0]⟩])
 (.block 0 (.loop 100000 [0, 7, 18] (.seq (.reg false [
  ⟨some 19, none, .bin .lss tI, [.t 18, .int .i64 1000]⟩])
 (.seq (.cond (.t 19) (.skip) (.exit 0))
 (.seq (.block 1 (.seq (.reg false [
  ⟨some 21, none, .mov, [.t 0]⟩,
  ⟨some 22, none, .mov, [.t 7]⟩,
  ⟨some 23, none, .call 7008 (some 117) [.v (.sl tI), .v .bool] false, [.t 21, .t 22]⟩,
  ⟨some 20, none, .mov, [.t 23]⟩,
  ⟨some 24, none, .ext 0, [.t 20]⟩,
  ⟨some 25, none, .ext 1, [.t 20]⟩,
  ⟨some 8, none, .mov, [.t 24]⟩,
  ⟨some 9, none, .mov, [.t 25]⟩])
 (.seq (.seq (.reg false [
  ⟨some 26, none, .mov, [.t 9]⟩,
  ⟨some 27, none, .not, [.t 26]⟩])
 (.cond (.t 27) (.exit 0) (.skip)))
 (.reg false [
  ⟨some 28, none, .mov, [.t 8]⟩,
  ⟨some 7, none, .mov, [.t 28]⟩]))))
 (.reg false [
  ⟨some 29, none, .bin .add tI, [.t 18, .int .i64 1]⟩,
  ⟨some 18, none, .mov, [.t 29]⟩])))))))
 (.seq (.reg false [
  ⟨some 30, none, .mov, [.t 7]⟩,
  ⟨some 4, none, .mov, [.t 30]⟩,
  ⟨some 5, none, .mov, [.int .i64 0]⟩])
 (.ret)))))⟩
def cf_garmentref21_SameInts : Fn := ⟨2, 26, [.t 4], [.v .bool], none,
 .seq (.reg false [
  ⟨some 4, none, .mov, [.bool false]⟩])
 (.seq (.seq (.reg false [
  ⟨some 6, none, .mov, [.t 0]⟩,
  ⟨some 7, none, .len, [.t 6]⟩,
  ⟨some 8, none, .mov, [.t 1]⟩,
  ⟨some 9, none, .len, [.t 8]⟩,
  ⟨some 10, none, .bin .neq tI, [.t 7, .t 9]⟩])
 (.cond (.t 10) (.seq (.reg false [
  ⟨some 4, none, .mov, [.bool false]⟩])
 (.ret)) (.skip)))
 (.seq (.seq (.reg false [
  ⟨some 5, none, .mov, [.int .i64 0]⟩])
 (.block 0 (.loop 100000 [0, 1, 5] (.seq (.seq (.reg false [
  ⟨some 11, none, .mov, [.t 5]⟩,
  ⟨some 12, none, .mov, [.t 0]⟩,
  ⟨some 13, none, .len, [.t 12]⟩,
  ⟨some 14, none, .bin .lss tI, [.t 11, .t 13]⟩])
 (.cond (.t 14) (.skip) (.exit 0)))
 (.seq (.block 1 (.seq (.reg true [
  ⟨some 17, none, .mov, [.t 0]⟩,
  ⟨some 18, none, .mov, [.t 5]⟩,
  ⟨some 19, none, .iadr tI, [.t 17, .t 18]⟩,
  ⟨some 20, none, .load tI, [.t 19]⟩,
  ⟨some 21, none, .mov, [.t 1]⟩,
  ⟨some 22, none, .mov, [.t 5]⟩,
  ⟨some 23, none, .iadr tI, [.t 21, .t 22]⟩,
  ⟨some 24, none, .load tI, [.t 23]⟩,
  ⟨some 25, none, .bin .neq tI, [.t 20, .t 24]⟩])
 (.cond (.t 25) (.seq (.reg false [
  ⟨some 4, none, .mov, [.bool false]⟩])
 (.ret)) (.skip))))
 (.reg false [
  ⟨some 15, none, .mov, [.t 5]⟩,
  ⟨some 16, none, .bin .add tI, [.t 15, .int .i64 1]⟩,
  ⟨some 5, none, .mov, [.t 16]⟩]))))))
 (.seq (.reg false [
  ⟨some 4, none, .mov, [.bool true]⟩])
 (.ret))))⟩
def cf_garmentlaw41_box : Fn := ⟨2, 22, [.t 4], [.o t0], none,
 .seq (.reg false [
  ⟨some 4, none, .own0 0 t0, []⟩])
 (.seq (.reg false [
  ⟨some 5, none, .mov, [.t 0]⟩,
  ⟨some 6, none, .mov, [.t 1]⟩,
  ⟨some 7, none, .build t0 [([false], tI), ([true], tI)], [.t 5, .t 6]⟩,
  ⟨some 8, none, .mov, [.t 0]⟩,
  ⟨some 9, none, .bin .add tI, [.t 8, .int .i64 1]⟩,
  ⟨some 10, none, .mov, [.t 1]⟩,
  ⟨some 11, none, .build t0 [([false], tI), ([true], tI)], [.t 9, .t 10]⟩,
  ⟨some 12, none, .mov, [.t 0]⟩,
  ⟨some 13, none, .bin .add tI, [.t 12, .int .i64 1]⟩,
  ⟨some 14, none, .mov, [.t 1]⟩,
  ⟨some 15, none, .bin .add tI, [.t 14, .int .i64 1]⟩,
  ⟨some 16, none, .build t0 [([false], tI), ([true], tI)], [.t 13, .t 15]⟩,
  ⟨some 17, none, .mov, [.t 0]⟩,
  ⟨some 18, none, .mov, [.t 1]⟩,
  ⟨some 19, none, .bin .add tI, [.t 18, .int .i64 1]⟩,
  ⟨some 20, none, .build t0 [([false], tI), ([true], tI)], [.t 17, .t 19]⟩,
  ⟨some 21, none, .bsl 1064 t0 4 [0, 1, 2, 3], [.t 7, .t 11, .t 16, .t 20]⟩,
  ⟨some 4, none, .mov, [.t 21]⟩])
 (.ret))⟩
def cf_path_valid : Fn := ⟨2, 46, [.t 4], [.v tI], none,
 .seq (.reg false [
  ⟨some 4, none, .mov, [.int .i64 0]⟩])
 (.seq (.seq (.reg false [
  ⟨some 9, none, .mov, [.t 0]⟩,
  ⟨some 10, none, .call 1004 (some 114) [.v tI] false, [.t 9]⟩,
  ⟨some 5, none, .mov, [.t 10]⟩])
 (.seq (.reg false [
  ⟨some 11, none, .mov, [.t 5]⟩,
  ⟨some 12, none, .bin .neq tI, [.t 11, .int .i64 0]⟩])
 (.cond (.t 12) (.seq (.reg false [
  ⟨some 13, none, .mov, [.t 5]⟩,
  ⟨some 4, none, .mov, [.t 13]⟩])
 (.ret)) (.skip))))
 (.seq (.seq (.reg false [
  ⟨some 14, none, .mov, [.t 1]⟩,
  ⟨some 15, none, .len, [.t 14]⟩,
  ⟨some 16, none, .mov, [.t 0]⟩,
  ⟨some 17, none, .len, [.t 16]⟩,
  ⟨some 18, none, .bin .neq tI, [.t 15, .t 17]⟩])
 (.cond (.t 18) (.seq (.reg false [
  ⟨some 4, none, .mov, [.int .i64 1]⟩])
 (.ret)) (.skip)))
 (.seq (.reg false [
  ⟨some 19, none, .mov, [.t 0]⟩,
  ⟨some 20, none, .len, [.t 19]⟩,
  ⟨some 21, none, .mksl 6008 .bool 281474976710656, [.t 20, .t 20]⟩,
  ⟨some 6, none, .mov, [.t 21]⟩])
 (.seq (.seq (.reg false [
  ⟨some 22, none, .mov, [.t 1]⟩,
  ⟨some 23, none, .len, [.t 22]⟩,
  ⟨some 24, none, .mov, [.int .i64 0]⟩])
 (.block 0 (.loop 100000 [0, 6, 22, 23, 24] (.seq (.reg false [
  ⟨some 25, none, .bin .lss tI, [.t 24, .t 23]⟩])
 (.seq (.cond (.t 25) (.skip) (.exit 0))
 (.seq (.block 1 (.seq (.reg false [
  ⟨some 26, none, .iadr tI, [.t 22, .t 24]⟩,
  ⟨some 27, none, .load tI, [.t 26]⟩,
  ⟨some 8, none, .mov, [.t 27]⟩])
 (.seq (.seq (.reg false [
  ⟨some 28, none, .mov, [.t 8]⟩,
  ⟨some 29, none, .bin .lss tI, [.t 28, .int .i64 0]⟩,
  ⟨some 30, none, .mov, [.t 29]⟩,
  ⟨some 31, (some (30, false)), .mov, [.t 8]⟩,
  ⟨some 32, (some (30, false)), .mov, [.t 0]⟩,
  ⟨some 33, (some (30, false)), .len, [.t 32]⟩,
  ⟨some 34, (some (30, false)), .bin .geq tI, [.t 31, .t 33]⟩,
  ⟨some 35, none, .pick, [.t 30, .bool true, .t 34]⟩,
  ⟨some 36, none, .mov, [.t 35]⟩,
  ⟨some 37, (some (36, false)), .mov, [.t 6]⟩,
  ⟨some 38, (some (36, false)), .mov, [.t 8]⟩,
  ⟨some 39, (some (36, false)), .iadr .bool, [.t 37, .t 38]⟩,
  ⟨some 40, (some (36, false)), .load .bool, [.t 39]⟩,
  ⟨some 41, none, .pick, [.t 36, .bool true, .t 40]⟩])
 (.cond (.t 41) (.seq (.reg false [
  ⟨some 4, none, .mov, [.int .i64 1]⟩])
 (.ret)) (.skip)))
 (.reg false [
  ⟨some 42, none, .mov, [.t 6]⟩,
  ⟨some 43, none, .mov, [.t 8]⟩,
  ⟨some 44, none, .iadr .bool, [.t 42, .t 43]⟩,
  ⟨none, none, .store .bool, [.t 44, .bool true]⟩]))))
 (.reg false [
  ⟨some 45, none, .bin .add tI, [.t 24, .int .i64 1]⟩,
  ⟨some 24, none, .mov, [.t 45]⟩])))))))
 (.seq (.reg false [
  ⟨some 4, none, .mov, [.int .i64 0]⟩])
 (.ret))))))⟩
def cf_path_distance : Fn := ⟨2, 28, [.t 4], [.v tI], none,
 .seq (.reg false [
  ⟨some 2, none, .box 0 t0, [.t 0]⟩,
  ⟨some 3, none, .box 4 t0, [.t 1]⟩,
  ⟨some 4, none, .mov, [.int .i64 0]⟩])
 (.seq (.reg false [
  ⟨some 5, none, .fadr t0 [false], [.t 2]⟩,
  ⟨some 6, none, .load tI, [.t 5]⟩,
  ⟨some 7, none, .fadr t0 [false], [.t 3]⟩,
  ⟨some 8, none, .load tI, [.t 7]⟩,
  ⟨some 9, none, .bin .sub tI, [.t 6, .t 8]⟩,
  ⟨some 10, none, .fadr t0 [false], [.t 3]⟩,
  ⟨some 11, none, .load tI, [.t 10]⟩,
  ⟨some 12, none, .fadr t0 [false], [.t 2]⟩,
  ⟨some 13, none, .load tI, [.t 12]⟩,
  ⟨some 14, none, .bin .sub tI, [.t 11, .t 13]⟩,
  ⟨some 15, none, .mm true .i64, [.t 9, .t 14]⟩,
  ⟨some 16, none, .fadr t0 [true], [.t 2]⟩,
  ⟨some 17, none, .load tI, [.t 16]⟩,
  ⟨some 18, none, .fadr t0 [true], [.t 3]⟩,
  ⟨some 19, none, .load tI, [.t 18]⟩,
  ⟨some 20, none, .bin .sub tI, [.t 17, .t 19]⟩,
  ⟨some 21, none, .fadr t0 [true], [.t 3]⟩,
  ⟨some 22, none, .load tI, [.t 21]⟩,
  ⟨some 23, none, .fadr t0 [true], [.t 2]⟩,
  ⟨some 24, none, .load tI, [.t 23]⟩,
  ⟨some 25, none, .bin .sub tI, [.t 22, .t 24]⟩,
  ⟨some 26, none, .mm true .i64, [.t 20, .t 25]⟩,
  ⟨some 27, none, .bin .add tI, [.t 15, .t 26]⟩,
  ⟨some 4, none, .mov, [.t 27]⟩])
 (.ret))⟩
def cf_path_check : Fn := ⟨1, 21, [.t 2], [.v tI], none,
 .seq (.reg false [
  ⟨some 2, none, .mov, [.int .i64 0]⟩])
 (.seq (.seq (.reg false [
  ⟨some 6, none, .mov, [.t 0]⟩,
  ⟨some 7, none, .len, [.t 6]⟩,
  ⟨some 8, none, .bin .gtr tI, [.t 7, .int .i64 60]⟩])
 (.cond (.t 8) (.seq (.reg false [
  ⟨some 2, none, .mov, [.int .i64 5]⟩])
 (.ret)) (.skip)))
 (.seq (.seq (.reg false [
  ⟨some 9, none, .mov, [.t 0]⟩,
  ⟨some 10, none, .len, [.t 9]⟩,
  ⟨some 11, none, .mov, [.int .i64 0]⟩])
 (.block 0 (.loop 100000 [9, 10, 11] (.seq (.reg false [
  ⟨some 12, none, .bin .lss tI, [.t 11, .t 10]⟩])
 (.seq (.cond (.t 12) (.skip) (.exit 0))
 (.seq (.block 1 (.seq (.reg false [
  ⟨some 13, none, .iadr (.sl t0), [.t 9, .t 11]⟩,
  ⟨some 14, none, .load (.sl t0), [.t 13]⟩,
  ⟨some 4, none, .mov, [.t 14]⟩])
 (.seq (.reg false [
  ⟨some 15, none, .mov, [.t 4]⟩,
  ⟨some 16, none, .call 6004 (some 13) [.v tI] false, [.t 15]⟩,
  ⟨some 5, none, .mov, [.t 16]⟩])
 (.seq (.reg false [
  ⟨some 17, none, .mov, [.t 5]⟩,
  ⟨some 18, none, .bin .neq tI, [.t 17, .int .i64 0]⟩])
 (.cond (.t 18) (.seq (.reg false [
  ⟨some 19, none, .mov, [.t 5]⟩,
  ⟨some 2, none, .mov, [.t 19]⟩])
 (.ret)) (.skip))))))
 (.reg false [
  ⟨some 20, none, .bin .add tI, [.t 11, .int .i64 1]⟩,
  ⟨some 11, none, .mov, [.t 20]⟩])))))))
 (.seq (.reg false [
  ⟨some 2, none, .mov, [.int .i64 0]⟩])
 (.ret))))⟩
def cf_slices_Contains_int_int : Fn := ⟨2, 9, [.t 4], [.v .bool], none,
 .seq (.reg false [
  ⟨some 4, none, .mov, [.bool false]⟩])
 (.seq (.reg false [
  ⟨some 5, none, .mov, [.t 0]⟩,
  ⟨some 6, none, .mov, [.t 1]⟩,
  ⟨some 7, none, .call 1008 (some 116) [.v tI] false, [.t 5, .t 6]⟩,
  ⟨some 8, none, .bin .geq tI, [.t 7, .int .i64 0]⟩,
  ⟨some 4, none, .mov, [.t 8]⟩])
 (.ret))⟩
def cf_slices_Index_int_int : Fn := ⟨2, 19, [.t 4], [.v tI], none,
 .seq (.reg false [
  ⟨some 4, none, .mov, [.int .i64 0]⟩])
 (.seq (.seq (.reg false [
  ⟨some 6, none, .mov, [.t 0]⟩,
  ⟨some 7, none, .len, [.t 6]⟩,
  ⟨some 8, none, .mov, [.int .i64 0]⟩])
 (.block 0 (.loop 100000 [0, 1, 7, 8] (.seq (.reg false [
  ⟨some 9, none, .bin .lss tI, [.t 8, .t 7]⟩])
 (.seq (.cond (.t 9) (.skip) (.exit 0))
 (.seq (.block 1 (.seq (.reg false [
  ⟨some 10, none, .mov, [.t 8]⟩,
  ⟨some 5, none, .mov, [.t 10]⟩])
 (.seq (.reg false [
  ⟨some 11, none, .mov, [.t 1]⟩,
  ⟨some 12, none, .mov, [.t 0]⟩,
  ⟨some 13, none, .mov, [.t 5]⟩,
  ⟨some 14, none, .iadr tI, [.t 12, .t 13]⟩,
  ⟨some 15, none, .load tI, [.t 14]⟩,
  ⟨some 16, none, .bin .eql tI, [.t 11, .t 15]⟩])
 (.cond (.t 16) (.seq (.reg false [
  ⟨some 17, none, .mov, [.t 5]⟩,
  ⟨some 4, none, .mov, [.t 17]⟩])
 (.ret)) (.skip)))))
 (.reg false [
  ⟨some 18, none, .bin .add tI, [.t 8, .int .i64 1]⟩,
  ⟨some 8, none, .mov, [.t 18]⟩])))))))
 (.seq (.reg false [
  ⟨some 4, none, .mov, [.int .i64 (-1)]⟩])
 (.ret)))⟩
def cf_path_better : Fn := ⟨2, 51, [.t 4, .t 5], [.v (.sl tI), .v .bool], none,
 .seq (.reg false [
  ⟨some 4, none, .own0 0 tI, []⟩,
  ⟨some 5, none, .mov, [.bool false]⟩])
 (.seq (.seq (.reg false [
  ⟨some 9, none, .mov, [.t 1]⟩,
  ⟨some 10, none, .len, [.t 9]⟩,
  ⟨some 11, none, .mov, [.int .i64 0]⟩])
 (.block 0 (.loop 100000 [0, 1, 10, 11] (.seq (.reg false [
  ⟨some 12, none, .bin .lss tI, [.t 11, .t 10]⟩])
 (.seq (.cond (.t 12) (.skip) (.exit 0))
 (.seq (.block 1 (.seq (.reg false [
  ⟨some 13, none, .mov, [.t 11]⟩,
  ⟨some 6, none, .mov, [.t 13]⟩])
 (.seq (.reg false [
  ⟨some 14, none, .mov, [.t 6]⟩,
  ⟨some 15, none, .bin .add tI, [.t 14, .int .i64 1]⟩,
  ⟨some 7, none, .mov, [.t 15]⟩])
 (.block 2 (.loop 200000 [0, 1, 6, 7, 10, 11] (.seq (.seq (.reg false [
  ⟨some 16, none, .mov, [.t 7]⟩,
  ⟨some 17, none, .mov, [.t 1]⟩,
  ⟨some 18, none, .len, [.t 17]⟩,
  ⟨some 19, none, .bin .lss tI, [.t 16, .t 18]⟩])
 (.cond (.t 19) (.skip) (.exit 2)))
 (.seq (.block 3 (.seq (.reg false [
  ⟨some 22, none, .mov, [.t 0]⟩,
  ⟨some 23, none, .mov, [.t 1]⟩,
  ⟨some 24, none, .mov, [.t 6]⟩,
  ⟨some 25, none, .mov, [.t 7]⟩,
  ⟨some 26, none, .call 7016 (some 118) [.v tI] false, [.t 22, .t 23, .t 24, .t 25]⟩,
  ⟨some 27, none, .bin .gtr tI, [.t 26, .int .i64 0]⟩])
 (.cond (.t 27) (.seq (.reg false [
  ⟨some 28, none, .mov, [.t 1]⟩,
  ⟨some 29, none, .mov, [.t 6]⟩,
  ⟨some 30, none, .mov, [.t 7]⟩,
  ⟨some 31, none, .bin .add tI, [.t 30, .int .i64 1]⟩,
  ⟨some 32, none, .mov, [.t 7]⟩,
  ⟨some 33, none, .bin .add tI, [.t 32, .int .i64 1]⟩,
  ⟨some 34, none, .slice 8024 .snap tI true true true, [.t 28, .t 29, .t 31, .t 33]⟩,
  ⟨some 35, none, .call 8028 (some 62) [.o tI] false, [.t 34]⟩,
  ⟨some 8, none, .mov, [.t 35]⟩])
 (.seq (.reg false [
  ⟨some 36, none, .mov, [.t 8]⟩,
  ⟨some 37, none, .call 9004 (some 119) [] true, [.t 36]⟩])
 (.seq (.reg true [
  ⟨some 38, none, .mov, [.t 1]⟩,
  ⟨some 39, none, .mov, [.t 6]⟩,
  ⟨some 40, none, .mov, [.t 6]⟩,
  ⟨some 41, none, .slice 10012 .snap tI false true true, [.t 38, .t 39, .t 40]⟩,
  ⟨some 42, none, .mov, [.t 8]⟩,
  ⟨some 43, none, .mov, [.t 1]⟩,
  ⟨some 44, none, .mov, [.t 7]⟩,
  ⟨some 45, none, .bin .add tI, [.t 44, .int .i64 1]⟩,
  ⟨some 46, none, .slice 10032 .snap tI true false false, [.t 43, .t 45]⟩,
  ⟨some 47, none, .bsl 10036 (.sl tI) 3 [0, 1, 2], [.t 41, .t 42, .t 46]⟩,
  ⟨some 48, none, .call 10040 (some 120) [.o tI] false, [.t 47]⟩,
  ⟨some 4, none, .mov, [.t 48]⟩,
  ⟨some 5, none, .mov, [.bool true]⟩])
 (.ret)))) (.skip))))
 (.reg false [
  ⟨some 20, none, .mov, [.t 7]⟩,
  ⟨some 21, none, .bin .add tI, [.t 20, .int .i64 1]⟩,
  ⟨some 7, none, .mov, [.t 21]⟩]))))))))
 (.reg false [
  ⟨some 49, none, .bin .add tI, [.t 11, .int .i64 1]⟩,
  ⟨some 11, none, .mov, [.t 49]⟩])))))))
 (.seq (.reg false [
  ⟨some 50, none, .mov, [.t 1]⟩,
  ⟨some 4, none, .mov, [.t 50]⟩,
  ⟨some 5, none, .mov, [.bool false]⟩])
 (.ret)))⟩
def cf_path_gain : Fn := ⟨4, 76, [.t 8], [.v tI], none,
 .seq (.reg false [
  ⟨some 8, none, .mov, [.int .i64 0]⟩])
 (.seq (.reg false [
  ⟨some 9, none, .alloc 1000 t0, []⟩])
 (.seq (.seq (.reg false [
  ⟨some 14, none, .mov, [.t 2]⟩,
  ⟨some 15, none, .bin .gtr tI, [.t 14, .int .i64 0]⟩])
 (.cond (.t 15) (.reg false [
  ⟨some 16, none, .mov, [.t 0]⟩,
  ⟨some 17, none, .mov, [.t 1]⟩,
  ⟨some 18, none, .mov, [.t 2]⟩,
  ⟨some 19, none, .bin .sub tI, [.t 18, .int .i64 1]⟩,
  ⟨some 20, none, .iadr tI, [.t 17, .t 19]⟩,
  ⟨some 21, none, .load tI, [.t 20]⟩,
  ⟨some 22, none, .iadr (.sl t0), [.t 16, .t 21]⟩,
  ⟨some 23, none, .load (.sl t0), [.t 22]⟩,
  ⟨some 24, none, .iadr t0, [.t 23, .int .i64 0]⟩,
  ⟨some 25, none, .load t0, [.t 24]⟩,
  ⟨none, none, .store t0, [.t 9, .t 25]⟩]) (.skip)))
 (.seq (.reg true [
  ⟨some 26, none, .mov, [.t 0]⟩,
  ⟨some 27, none, .mov, [.t 1]⟩,
  ⟨some 28, none, .mov, [.t 2]⟩,
  ⟨some 29, none, .iadr tI, [.t 27, .t 28]⟩,
  ⟨some 30, none, .load tI, [.t 29]⟩,
  ⟨some 31, none, .iadr (.sl t0), [.t 26, .t 30]⟩,
  ⟨some 32, none, .load (.sl t0), [.t 31]⟩,
  ⟨some 33, none, .iadr t0, [.t 32, .int .i64 0]⟩,
  ⟨some 34, none, .load t0, [.t 33]⟩,
  ⟨some 35, none, .mov, [.t 0]⟩,
  ⟨some 36, none, .mov, [.t 1]⟩,
  ⟨some 37, none, .mov, [.t 3]⟩,
  ⟨some 38, none, .iadr tI, [.t 36, .t 37]⟩,
  ⟨some 39, none, .loadi tI, [.t 38]⟩,
  ⟨some 40, none, .iadr (.sl t0), [.t 35, .t 39]⟩,
  ⟨some 41, none, .loadi (.sl t0), [.t 40]⟩,
  ⟨some 42, none, .iadr t0, [.t 41, .int .i64 0]⟩,
  ⟨some 43, none, .loadi t0, [.t 42]⟩,
  ⟨some 10, none, .alloc 4072 t0, []⟩,
  ⟨some 11, none, .alloc 4076 t0, []⟩,
  ⟨none, none, .store t0, [.t 10, .t 34]⟩,
  ⟨none, none, .store t0, [.t 11, .t 43]⟩])
 (.seq (.reg true [
  ⟨some 44, none, .load t0, [.t 9]⟩,
  ⟨some 45, none, .load t0, [.t 10]⟩,
  ⟨some 46, none, .call 5008 (some 113) [.v tI] false, [.t 44, .t 45]⟩,
  ⟨some 47, none, .load t0, [.t 9]⟩,
  ⟨some 48, none, .load t0, [.t 11]⟩,
  ⟨some 49, none, .call 5020 (some 113) [.v tI] false, [.t 47, .t 48]⟩,
  ⟨some 50, none, .bin .sub tI, [.t 46, .t 49]⟩,
  ⟨some 12, none, .mov, [.t 50]⟩])
 (.seq (.seq (.reg false [
  ⟨some 51, none, .mov, [.t 3]⟩,
  ⟨some 52, none, .bin .add tI, [.t 51, .int .i64 1]⟩,
  ⟨some 53, none, .mov, [.t 1]⟩,
  ⟨some 54, none, .len, [.t 53]⟩,
  ⟨some 55, none, .bin .lss tI, [.t 52, .t 54]⟩])
 (.cond (.t 55) (.seq (.reg false [
  ⟨some 56, none, .mov, [.t 0]⟩,
  ⟨some 57, none, .mov, [.t 1]⟩,
  ⟨some 58, none, .mov, [.t 3]⟩,
  ⟨some 59, none, .bin .add tI, [.t 58, .int .i64 1]⟩,
  ⟨some 60, none, .iadr tI, [.t 57, .t 59]⟩,
  ⟨some 61, none, .load tI, [.t 60]⟩,
  ⟨some 62, none, .iadr (.sl t0), [.t 56, .t 61]⟩,
  ⟨some 63, none, .load (.sl t0), [.t 62]⟩,
  ⟨some 64, none, .iadr t0, [.t 63, .int .i64 0]⟩,
  ⟨some 65, none, .load t0, [.t 64]⟩,
  ⟨some 13, none, .alloc 7040 t0, []⟩,
  ⟨none, none, .store t0, [.t 13, .t 65]⟩])
 (.reg true [
  ⟨some 66, none, .mov, [.t 12]⟩,
  ⟨some 67, none, .load t0, [.t 11]⟩,
  ⟨some 68, none, .load t0, [.t 13]⟩,
  ⟨some 69, none, .call 8012 (some 113) [.v tI] false, [.t 67, .t 68]⟩,
  ⟨some 70, none, .load t0, [.t 10]⟩,
  ⟨some 71, none, .load t0, [.t 13]⟩,
  ⟨some 72, none, .call 8024 (some 113) [.v tI] false, [.t 70, .t 71]⟩,
  ⟨some 73, none, .bin .sub tI, [.t 69, .t 72]⟩,
  ⟨some 74, none, .bin .add tI, [.t 66, .t 73]⟩,
  ⟨some 12, none, .mov, [.t 74]⟩])) (.skip)))
 (.seq (.reg false [
  ⟨some 75, none, .mov, [.t 12]⟩,
  ⟨some 8, none, .mov, [.t 75]⟩])
 (.ret)))))))⟩
def cf_slices_Reverse_int_int : Fn := ⟨1, 28, [], [], none,
 .seq (.reg false [
  ⟨some 4, none, .mov, [.t 0]⟩,
  ⟨some 5, none, .len, [.t 4]⟩,
  ⟨some 6, none, .bin .sub tI, [.t 5, .int .i64 1]⟩,
  ⟨some 2, none, .mov, [.int .i64 0]⟩,
  ⟨some 3, none, .mov, [.t 6]⟩])
 (.block 0 (.loop 100000 [0, 2, 3] (.seq (.seq (.reg false [
  ⟨some 7, none, .mov, [.t 2]⟩,
  ⟨some 8, none, .mov, [.t 3]⟩,
  ⟨some 9, none, .bin .lss tI, [.t 7, .t 8]⟩])
 (.cond (.t 9) (.skip) (.exit 0)))
 (.seq (.block 1 (.reg true [
  ⟨some 14, none, .mov, [.t 0]⟩,
  ⟨some 15, none, .mov, [.t 2]⟩,
  ⟨some 16, none, .mov, [.t 0]⟩,
  ⟨some 17, none, .mov, [.t 3]⟩,
  ⟨some 18, none, .mov, [.t 0]⟩,
  ⟨some 19, none, .mov, [.t 3]⟩,
  ⟨some 20, none, .iadr tI, [.t 18, .t 19]⟩,
  ⟨some 21, none, .load tI, [.t 20]⟩,
  ⟨some 22, none, .mov, [.t 0]⟩,
  ⟨some 23, none, .mov, [.t 2]⟩,
  ⟨some 24, none, .iadr tI, [.t 22, .t 23]⟩,
  ⟨some 25, none, .load tI, [.t 24]⟩,
  ⟨some 26, none, .iadr tI, [.t 14, .t 15]⟩,
  ⟨none, none, .store tI, [.t 26, .t 21]⟩,
  ⟨some 27, none, .iadr tI, [.t 16, .t 17]⟩,
  ⟨none, none, .store tI, [.t 27, .t 25]⟩]))
 (.reg false [
  ⟨some 10, none, .mov, [.t 2]⟩,
  ⟨some 11, none, .bin .add tI, [.t 10, .int .i64 1]⟩,
  ⟨some 12, none, .mov, [.t 3]⟩,
  ⟨some 13, none, .bin .sub tI, [.t 12, .int .i64 1]⟩,
  ⟨some 2, none, .mov, [.t 11]⟩,
  ⟨some 3, none, .mov, [.t 13]⟩])))))⟩
def cf_slices_Concat_int_int : Fn := ⟨1, 36, [.t 2], [.o tI], none,
 .seq (.reg false [
  ⟨some 2, none, .own0 0 tI, []⟩])
 (.seq (.reg false [
  ⟨some 3, none, .mov, [.int .i64 0]⟩])
 (.seq (.seq (.reg false [
  ⟨some 9, none, .mov, [.t 0]⟩,
  ⟨some 10, none, .len, [.t 9]⟩,
  ⟨some 11, none, .mov, [.int .i64 0]⟩])
 (.block 0 (.loop 100000 [0, 3, 9, 10, 11] (.seq (.reg false [
  ⟨some 12, none, .bin .lss tI, [.t 11, .t 10]⟩])
 (.seq (.cond (.t 12) (.skip) (.exit 0))
 (.seq (.block 1 (.seq (.reg false [
  ⟨some 13, none, .iadr (.sl tI), [.t 9, .t 11]⟩,
  ⟨some 14, none, .load (.sl tI), [.t 13]⟩,
  ⟨some 5, none, .mov, [.t 14]⟩])
 (.seq (.reg false [
  ⟨some 15, none, .mov, [.t 3]⟩,
  ⟨some 16, none, .mov, [.t 5]⟩,
  ⟨some 17, none, .len, [.t 16]⟩,
  ⟨some 18, none, .bin .add tI, [.t 15, .t 17]⟩,
  ⟨some 3, none, .mov, [.t 18]⟩])
 (.seq (.reg false [
  ⟨some 19, none, .mov, [.t 3]⟩,
  ⟨some 20, none, .bin .lss tI, [.t 19, .int .i64 0]⟩])
 (.cond (.t 20) (.reg false [
  ⟨some 21, none, .cap, []⟩,
  ⟨none, none, .cap, []⟩]) (.skip))))))
 (.reg false [
  ⟨some 22, none, .bin .add tI, [.t 11, .int .i64 1]⟩,
  ⟨some 11, none, .mov, [.t 22]⟩])))))))
 (.seq (.reg false [
  ⟨some 23, none, .mov, [.t 3]⟩,
  ⟨some 24, none, .call 9004 (some 121) [.o tI] false, [.nil, .t 23]⟩,
  ⟨some 6, none, .mov, [.t 24]⟩])
 (.seq (.seq (.reg false [
  ⟨some 25, none, .mov, [.t 0]⟩,
  ⟨some 26, none, .len, [.t 25]⟩,
  ⟨some 27, none, .mov, [.int .i64 0]⟩])
 (.block 2 (.loop 200000 [6, 25, 26, 27] (.seq (.reg false [
  ⟨some 28, none, .bin .lss tI, [.t 27, .t 26]⟩])
 (.seq (.cond (.t 28) (.skip) (.exit 2))
 (.seq (.block 3 (.seq (.reg false [
  ⟨some 29, none, .iadr (.sl tI), [.t 25, .t 27]⟩,
  ⟨some 30, none, .load (.sl tI), [.t 29]⟩,
  ⟨some 8, none, .mov, [.t 30]⟩])
 (.reg false [
  ⟨some 31, none, .mov, [.t 6]⟩,
  ⟨some 32, none, .mov, [.t 8]⟩,
  ⟨some 33, none, .app 13008 tI 17592186044416, [.t 31, .t 32]⟩,
  ⟨some 6, none, .mov, [.t 33]⟩])))
 (.reg false [
  ⟨some 34, none, .bin .add tI, [.t 27, .int .i64 1]⟩,
  ⟨some 27, none, .mov, [.t 34]⟩])))))))
 (.seq (.reg false [
  ⟨some 35, none, .mov, [.t 6]⟩,
  ⟨some 2, none, .mov, [.t 35]⟩])
 (.ret))))))⟩
def cf_slices_Grow_int_int : Fn := ⟨2, 27, [.t 4], [.o tI], none,
 .seq (.reg false [
  ⟨some 4, none, .own0 0 tI, []⟩])
 (.seq (.seq (.reg false [
  ⟨some 5, none, .mov, [.t 1]⟩,
  ⟨some 6, none, .bin .lss tI, [.t 5, .int .i64 0]⟩])
 (.cond (.t 6) (.reg false [
  ⟨some 7, none, .cap, []⟩,
  ⟨none, none, .cap, []⟩]) (.skip)))
 (.seq (.seq (.reg false [
  ⟨some 8, none, .mov, [.t 1]⟩,
  ⟨some 9, none, .mov, [.t 0]⟩,
  ⟨some 10, none, .cap, [.t 9]⟩,
  ⟨some 11, none, .mov, [.t 0]⟩,
  ⟨some 12, none, .len, [.t 11]⟩,
  ⟨some 13, none, .bin .sub tI, [.t 10, .t 12]⟩,
  ⟨some 14, none, .bin .sub tI, [.t 8, .t 13]⟩,
  ⟨some 1, none, .mov, [.t 14]⟩])
 (.seq (.reg false [
  ⟨some 15, none, .mov, [.t 1]⟩,
  ⟨some 16, none, .bin .gtr tI, [.t 15, .int .i64 0]⟩])
 (.cond (.t 16) (.reg false [
  ⟨some 17, none, .mov, [.t 0]⟩,
  ⟨some 18, none, .mov, [.t 0]⟩,
  ⟨some 19, none, .cap, [.t 18]⟩,
  ⟨some 20, none, .slice 5012 .snap tI false true false, [.t 17, .t 19]⟩,
  ⟨some 21, none, .mov, [.t 1]⟩,
  ⟨some 22, none, .appz 5020 tI 17592186044416, [.t 20, .t 21]⟩,
  ⟨some 23, none, .mov, [.t 0]⟩,
  ⟨some 24, none, .len, [.t 23]⟩,
  ⟨some 25, none, .slice 5032 .trunc tI false true false, [.t 22, .t 24]⟩,
  ⟨some 0, none, .mov, [.t 25]⟩]) (.skip))))
 (.seq (.reg false [
  ⟨some 26, none, .mov, [.t 0]⟩,
  ⟨some 4, none, .mov, [.t 26]⟩])
 (.ret))))⟩
def cf_garmentlaw41_PathBegins : Fn := ⟨3, 152, [.t 6], [.v .bool], none,
 .seq (.reg false [
  ⟨some 6, none, .mov, [.bool false]⟩])
 (.seq (.seq (.reg false [
  ⟨some 22, none, .mov, [.t 0]⟩,
  ⟨some 23, none, .call 1004 (some 102) [.v .bool] false, [.t 22]⟩,
  ⟨some 24, none, .not, [.t 23]⟩,
  ⟨some 25, none, .mov, [.t 24]⟩,
  ⟨some 26, (some (25, false)), .mov, [.t 0]⟩,
  ⟨some 27, (some (25, false)), .len, [.t 26]⟩,
  ⟨some 28, (some (25, false)), .bin .gtr tI, [.t 27, .int .i64 8]⟩,
  ⟨some 29, none, .pick, [.t 25, .bool true, .t 28]⟩,
  ⟨some 30, none, .mov, [.t 29]⟩,
  ⟨some 31, (some (30, false)), .mov, [.t 0]⟩,
  ⟨some 32, (some (30, false)), .len, [.t 31]⟩,
  ⟨some 33, (some (30, false)), .bin .eql tI, [.t 32, .int .i64 0]⟩,
  ⟨some 34, none, .pick, [.t 30, .bool true, .t 33]⟩,
  ⟨some 35, none, .mov, [.t 34]⟩,
  ⟨some 36, (some (35, false)), .mov, [.t 1]⟩,
  ⟨some 37, (some (35, false)), .len, [.t 36]⟩,
  ⟨some 38, (some (35, false)), .bin .gtr tI, [.t 37, .int .i64 100]⟩,
  ⟨some 39, none, .pick, [.t 35, .bool true, .t 38]⟩])
 (.cond (.t 39) (.seq (.reg false [
  ⟨some 40, none, .call 2000 (some 103) [.v .bool] false, []⟩,
  ⟨some 6, none, .mov, [.t 40]⟩])
 (.ret)) (.skip)))
 (.seq (.reg false [
  ⟨some 41, none, .mov, [.t 2]⟩,
  ⟨some 42, none, .conv .u8 .i64, [.t 41]⟩,
  ⟨some 43, none, .mov, [.t 0]⟩,
  ⟨some 44, none, .len, [.t 43]⟩,
  ⟨some 45, none, .bin .rem tI, [.t 42, .t 44]⟩,
  ⟨some 7, none, .mov, [.t 45]⟩])
 (.seq (.seq (.reg false [
  ⟨some 46, none, .mov, [.t 0]⟩,
  ⟨some 47, none, .mov, [.t 7]⟩,
  ⟨some 48, none, .iadr (.sl t0), [.t 46, .t 47]⟩,
  ⟨some 49, none, .load (.sl t0), [.t 48]⟩,
  ⟨some 50, none, .len, [.t 49]⟩,
  ⟨some 51, none, .bin .eql tI, [.t 50, .int .i64 0]⟩])
 (.cond (.t 51) (.seq (.reg false [
  ⟨some 52, none, .call 5000 (some 103) [.v .bool] false, []⟩,
  ⟨some 6, none, .mov, [.t 52]⟩])
 (.ret)) (.skip)))
 (.seq (.reg false [
  ⟨some 53, none, .bsl 6000 (.sl t0) 0 [], []⟩,
  ⟨some 54, none, .mov, [.t 0]⟩,
  ⟨some 55, none, .app 6008 (.sl t0) 5864062014805, [.t 53, .t 54]⟩,
  ⟨some 8, none, .mov, [.t 55]⟩])
 (.seq (.reg false [
  ⟨some 56, none, .mov, [.t 0]⟩,
  ⟨some 57, none, .mov, [.t 7]⟩,
  ⟨some 58, none, .iadr (.sl t0), [.t 56, .t 57]⟩,
  ⟨some 59, none, .load (.sl t0), [.t 58]⟩,
  ⟨some 60, none, .iadr t0, [.t 59, .int .i64 0]⟩,
  ⟨some 61, none, .load t0, [.t 60]⟩,
  ⟨some 9, none, .alloc 7024 t0, []⟩,
  ⟨none, none, .store t0, [.t 9, .t 61]⟩])
 (.seq (.seq (.reg false [
  ⟨some 62, none, .mov, [.t 0]⟩,
  ⟨some 63, none, .mov, [.t 7]⟩,
  ⟨some 64, none, .iadr (.sl t0), [.t 62, .t 63]⟩,
  ⟨some 65, none, .load (.sl t0), [.t 64]⟩,
  ⟨some 66, none, .call 8016 (some 13) [.v tI] false, [.t 65]⟩,
  ⟨some 67, none, .bin .neq tI, [.t 66, .int .i64 0]⟩,
  ⟨some 68, none, .mov, [.t 67]⟩,
  ⟨some 69, (some (68, false)), .fadr t0 [false], [.t 9]⟩,
  ⟨some 70, (some (68, false)), .load tI, [.t 69]⟩,
  ⟨some 71, (some (68, false)), .bin .geq tI, [.t 70, .int .i64 1048576]⟩,
  ⟨some 72, none, .pick, [.t 68, .bool true, .t 71]⟩,
  ⟨some 73, none, .mov, [.t 72]⟩,
  ⟨some 74, (some (73, false)), .fadr t0 [true], [.t 9]⟩,
  ⟨some 75, (some (73, false)), .load tI, [.t 74]⟩,
  ⟨some 76, (some (73, false)), .bin .geq tI, [.t 75, .int .i64 1048576]⟩,
  ⟨some 77, none, .pick, [.t 73, .bool true, .t 76]⟩])
 (.cond (.t 77) (.seq (.reg false [
  ⟨some 78, none, .call 9000 (some 103) [.v .bool] false, []⟩,
  ⟨some 6, none, .mov, [.t 78]⟩])
 (.ret)) (.skip)))
 (.seq (.reg false [
  ⟨some 79, none, .mov, [.t 8]⟩,
  ⟨some 80, none, .mov, [.t 7]⟩,
  ⟨some 81, none, .fadr t0 [false], [.t 9]⟩,
  ⟨some 82, none, .load tI, [.t 81]⟩,
  ⟨some 83, none, .fadr t0 [true], [.t 9]⟩,
  ⟨some 84, none, .load tI, [.t 83]⟩,
  ⟨some 85, none, .call 10024 (some 111) [.o t0] false, [.t 82, .t 84]⟩,
  ⟨some 86, none, .iadr (.sl t0), [.t 79, .t 80]⟩,
  ⟨none, none, .store (.sl t0), [.t 86, .t 85]⟩])
 (.seq (.reg false [
  ⟨some 88, none, .mov, [.t 0]⟩,
  ⟨some 89, none, .mov, [.t 1]⟩,
  ⟨some 90, none, .call 11008 (some 104) [.v tI, .v tI] false, [.t 88, .t 89]⟩,
  ⟨some 87, none, .mov, [.t 90]⟩,
  ⟨some 91, none, .ext 0, [.t 87]⟩,
  ⟨some 92, none, .ext 1, [.t 87]⟩,
  ⟨some 10, none, .mov, [.t 91]⟩,
  ⟨some 11, none, .mov, [.t 92]⟩])
 (.seq (.reg false [
  ⟨some 94, none, .mov, [.t 8]⟩,
  ⟨some 95, none, .mov, [.t 1]⟩,
  ⟨some 96, none, .call 12008 (some 104) [.v tI, .v tI] false, [.t 94, .t 95]⟩,
  ⟨some 93, none, .mov, [.t 96]⟩,
  ⟨some 97, none, .ext 0, [.t 93]⟩,
  ⟨some 98, none, .ext 1, [.t 93]⟩,
  ⟨some 12, none, .mov, [.t 97]⟩,
  ⟨some 13, none, .mov, [.t 98]⟩])
 (.seq (.reg false [
  ⟨some 100, none, .mov, [.t 0]⟩,
  ⟨some 101, none, .call 13004 (some 108) [.o tI, .v tI] false, [.t 100]⟩,
  ⟨some 99, none, .mov, [.t 101]⟩,
  ⟨some 102, none, .ext 0, [.t 99]⟩,
  ⟨some 103, none, .ext 1, [.t 99]⟩,
  ⟨some 14, none, .mov, [.t 102]⟩,
  ⟨some 15, none, .mov, [.t 103]⟩])
 (.seq (.reg false [
  ⟨some 105, none, .mov, [.t 8]⟩,
  ⟨some 106, none, .call 14004 (some 108) [.o tI, .v tI] false, [.t 105]⟩,
  ⟨some 104, none, .mov, [.t 106]⟩,
  ⟨some 107, none, .ext 0, [.t 104]⟩,
  ⟨some 108, none, .ext 1, [.t 104]⟩,
  ⟨some 16, none, .mov, [.t 107]⟩,
  ⟨some 17, none, .mov, [.t 108]⟩])
 (.seq (.reg false [
  ⟨some 110, none, .mov, [.t 0]⟩,
  ⟨some 111, none, .mov, [.t 1]⟩,
  ⟨some 112, none, .call 15008 (some 109) [.v (.sl tI), .v tI] false, [.t 110, .t 111]⟩,
  ⟨some 109, none, .mov, [.t 112]⟩,
  ⟨some 113, none, .ext 0, [.t 109]⟩,
  ⟨some 114, none, .ext 1, [.t 109]⟩,
  ⟨some 18, none, .mov, [.t 113]⟩,
  ⟨some 19, none, .mov, [.t 114]⟩])
 (.seq (.reg false [
  ⟨some 116, none, .mov, [.t 8]⟩,
  ⟨some 117, none, .mov, [.t 1]⟩,
  ⟨some 118, none, .call 16008 (some 109) [.v (.sl tI), .v tI] false, [.t 116, .t 117]⟩,
  ⟨some 115, none, .mov, [.t 118]⟩,
  ⟨some 119, none, .ext 0, [.t 115]⟩,
  ⟨some 120, none, .ext 1, [.t 115]⟩,
  ⟨some 20, none, .mov, [.t 119]⟩,
  ⟨some 21, none, .mov, [.t 120]⟩])
 (.seq (.reg false [
  ⟨some 121, none, .mov, [.t 10]⟩,
  ⟨some 122, none, .mov, [.t 12]⟩,
  ⟨some 123, none, .bin .eql tI, [.t 121, .t 122]⟩,
  ⟨some 124, none, .mov, [.t 123]⟩,
  ⟨some 125, (some (124, true)), .mov, [.t 11]⟩,
  ⟨some 126, (some (124, true)), .mov, [.t 13]⟩,
  ⟨some 127, (some (124, true)), .bin .eql tI, [.t 125, .t 126]⟩,
  ⟨some 128, none, .pick, [.t 124, .t 127, .bool false]⟩,
  ⟨some 129, none, .mov, [.t 128]⟩,
  ⟨some 130, (some (129, true)), .mov, [.t 15]⟩,
  ⟨some 131, (some (129, true)), .mov, [.t 17]⟩,
  ⟨some 132, (some (129, true)), .bin .eql tI, [.t 130, .t 131]⟩,
  ⟨some 133, none, .pick, [.t 129, .t 132, .bool false]⟩,
  ⟨some 134, none, .mov, [.t 133]⟩,
  ⟨some 135, (some (134, true)), .mov, [.t 19]⟩,
  ⟨some 136, (some (134, true)), .mov, [.t 21]⟩,
  ⟨some 137, (some (134, true)), .bin .eql tI, [.t 135, .t 136]⟩,
  ⟨some 138, none, .pick, [.t 134, .t 137, .bool false]⟩,
  ⟨some 139, none, .mov, [.t 138]⟩,
  ⟨some 140, (some (139, true)), .mov, [.t 14]⟩,
  ⟨some 141, (some (139, true)), .mov, [.t 16]⟩,
  ⟨some 142, (some (139, true)), .call 17084 (some 110) [.v .bool] false, [.t 140, .t 141]⟩,
  ⟨some 143, none, .pick, [.t 139, .t 142, .bool false]⟩,
  ⟨some 144, none, .mov, [.t 143]⟩,
  ⟨some 145, (some (144, true)), .mov, [.t 18]⟩,
  ⟨some 146, (some (144, true)), .mov, [.t 20]⟩,
  ⟨some 147, (some (144, true)), .call 17104 (some 110) [.v .bool] false, [.t 145, .t 146]⟩,
  ⟨some 148, none, .pick, [.t 144, .t 147, .bool false]⟩,
  ⟨some 149, none, .mov, [.t 148]⟩,
  ⟨some 150, (some (149, true)), .call 17116 (some 103) [.v .bool] false, []⟩,
  ⟨some 151, none, .pick, [.t 149, .t 150, .bool false]⟩,
  ⟨some 6, none, .mov, [.t 151]⟩])
 (.ret)))))))))))))))⟩
end Pm
end
section
/- The table of the functions. -/
namespace Pm
open Go
set_option maxRecDepth 20000
set_option linter.unusedVariables false
def G : Nat → Option Fn := fun n =>
 cond (Nat.beq n 13) (some cf_polygon_Check) <|
 cond (Nat.beq n 14) (some cf_polygon_turn) <|
 cond (Nat.beq n 20) (some cf_polygon_inside) <|
 cond (Nat.beq n 21) (some cf_polygon_simple) <|
 cond (Nat.beq n 22) (some cf_polygon_sides) <|
 cond (Nat.beq n 23) (some cf_polygon_side_holds) <|
 cond (Nat.beq n 24) (some cf_polygon_side_meets) <|
 cond (Nat.beq n 25) (some cf_polygon_within) <|
 cond (Nat.beq n 26) (some cf_polygon_side_divides) <|
 cond (Nat.beq n 33) (some cf_garmentref11_Cross) <|
 cond (Nat.beq n 62) (some cf_slices_Clone_int_int) <|
 cond (Nat.beq n 67) (some cf_garmentref11_Check) <|
 cond (Nat.beq n 68) (some cf_garmentref11_Within) <|
 cond (Nat.beq n 69) (some cf_garmentref11_simple) <|
 cond (Nat.beq n 70) (some cf_garmentref11_Between) <|
 cond (Nat.beq n 71) (some cf_garmentref11_meet) <|
 cond (Nat.beq n 72) (some cf_garmentref11_sign) <|
 cond (Nat.beq n 102) (some cf_garmentref41_Light) <|
 cond (Nat.beq n 103) (some cf_garmentlaw41_alive) <|
 cond (Nat.beq n 104) (some cf_path_Travel) <|
 cond (Nat.beq n 107) (some cf_garmentlaw41_three) <|
 cond (Nat.beq n 108) (some cf_path_Greedy) <|
 cond (Nat.beq n 109) (some cf_path_Improve) <|
 cond (Nat.beq n 110) (some cf_garmentref21_SameInts) <|
 cond (Nat.beq n 111) (some cf_garmentlaw41_box) <|
 cond (Nat.beq n 112) (some cf_path_valid) <|
 cond (Nat.beq n 113) (some cf_path_distance) <|
 cond (Nat.beq n 114) (some cf_path_check) <|
 cond (Nat.beq n 115) (some cf_slices_Contains_int_int) <|
 cond (Nat.beq n 116) (some cf_slices_Index_int_int) <|
 cond (Nat.beq n 117) (some cf_path_better) <|
 cond (Nat.beq n 118) (some cf_path_gain) <|
 cond (Nat.beq n 119) (some cf_slices_Reverse_int_int) <|
 cond (Nat.beq n 120) (some cf_slices_Concat_int_int) <|
 cond (Nat.beq n 121) (some cf_slices_Grow_int_int) <|
 cond (Nat.beq n 135) (some cf_garmentlaw41_PathBegins) <| none
noncomputable def CG : CallF := limC G
end Pm
end
