/- Parts of the proof of PolygonNormal, joined: Cf0, Cf. -/
import Derived.Test.YtccinkbneimmhaaPolygonNormalQ0
set_option linter.unusedVariables false
set_option linter.unusedSimpArgs false
section
/- The functions that the law reaches, in the plain form: written by a program of mine out of the translation. -/
namespace Pm
open Go
set_option maxRecDepth 20000
set_option linter.unusedVariables false
def cf_garmentref11_Same : Fn := ⟨2, 26, [.t 4], [.v .bool], none,
 .seq (.reg false [
  ⟨some 4, none, .mov, [.bool false]⟩])
 (.seq (.seq (.reg false [
  ⟨some 6, none, .mov, [.t 0]⟩,
  ⟨some 7, none, .len, [.t 6]⟩,
  ⟨some 8, none, .mov, [.t 1]⟩,
  ⟨some 9, none, .len, [.t 8]⟩,
  ⟨some 10, none, .bin .neq tI, [.t 7, .t 9]⟩])
 (.cond (.t 10) (.seq (.reg false [
  ⟨some 4, none, .mov, [.bool false]⟩])
 (.ret)) (.skip)))
 (.seq (.seq (.reg false [
  ⟨some 5, none, .mov, [.int .i64 0]⟩])
 (.block 0 (.loop 100000 [0, 1, 5] (.seq (.seq (.reg false [
  ⟨some 11, none, .mov, [.t 5]⟩,
  ⟨some 12, none, .mov, [.t 0]⟩,
  ⟨some 13, none, .len, [.t 12]⟩,
  ⟨some 14, none, .bin .lss tI, [.t 11, .t 13]⟩])
 (.cond (.t 14) (.skip) (.exit 0)))
 (.seq (.block 1 (.seq (.reg true [
  ⟨some 17, none, .mov, [.t 0]⟩,
  ⟨some 18, none, .mov, [.t 5]⟩,
  ⟨some 19, none, .iadr t0, [.t 17, .t 18]⟩,
  ⟨some 20, none, .load t0, [.t 19]⟩,
  ⟨some 21, none, .mov, [.t 1]⟩,
  ⟨some 22, none, .mov, [.t 5]⟩,
  ⟨some 23, none, .iadr t0, [.t 21, .t 22]⟩,
  ⟨some 24, none, .load t0, [.t 23]⟩,
  ⟨some 25, none, .bin .neq t0, [.t 20, .t 24]⟩])
 (.cond (.t 25) (.seq (.reg false [
  ⟨some 4, none, .mov, [.bool false]⟩])
 (.ret)) (.skip))))
 (.reg false [
  ⟨some 15, none, .mov, [.t 5]⟩,
  ⟨some 16, none, .bin .add tI, [.t 15, .int .i64 1]⟩,
  ⟨some 5, none, .mov, [.t 16]⟩]))))))
 (.seq (.reg false [
  ⟨some 4, none, .mov, [.bool true]⟩])
 (.ret))))⟩
def cf_polygon_Normal : Fn := ⟨1, 68, [.t 2, .t 3], [.v (.sl t0), .v tI], none,
 .seq (.reg false [
  ⟨some 2, none, .own0 0 t0, []⟩,
  ⟨some 3, none, .mov, [.int .i64 0]⟩])
 (.seq (.seq (.reg false [
  ⟨some 9, none, .mov, [.t 0]⟩,
  ⟨some 10, none, .call 1004 (some 13) [.v tI] false, [.t 9]⟩,
  ⟨some 4, none, .mov, [.t 10]⟩])
 (.seq (.reg false [
  ⟨some 11, none, .mov, [.t 4]⟩,
  ⟨some 12, none, .bin .neq tI, [.t 11, .int .i64 0]⟩])
 (.cond (.t 12) (.seq (.reg false [
  ⟨some 13, none, .mov, [.t 4]⟩,
  ⟨some 2, none, .own0 3004 t0, []⟩,
  ⟨some 3, none, .mov, [.t 13]⟩])
 (.ret)) (.skip))))
 (.seq (.reg false [
  ⟨some 5, none, .own0 4000 t0, []⟩])
 (.seq (.seq (.reg false [
  ⟨some 14, none, .mov, [.t 0]⟩,
  ⟨some 15, none, .len, [.t 14]⟩,
  ⟨some 16, none, .mov, [.int .i64 0]⟩])
 (.block 0 (.loop 100000 [0, 5, 14, 15, 16] (.seq (.reg false [
  ⟨some 17, none, .bin .lss tI, [.t 16, .t 15]⟩])
 (.seq (.cond (.t 17) (.skip) (.exit 0))
 (.seq (.block 1 (.seq (.reg false [
  ⟨some 18, none, .mov, [.t 16]⟩,
  ⟨some 19, none, .iadr t0, [.t 14, .t 16]⟩,
  ⟨some 20, none, .load t0, [.t 19]⟩,
  ⟨some 7, none, .alloc 7012 t0, []⟩,
  ⟨some 6, none, .mov, [.t 18]⟩,
  ⟨none, none, .store t0, [.t 7, .t 20]⟩])
 (.seq (.reg true [
  ⟨some 21, none, .mov, [.t 0]⟩,
  ⟨some 22, none, .mov, [.t 6]⟩,
  ⟨some 23, none, .mov, [.t 0]⟩,
  ⟨some 24, none, .len, [.t 23]⟩,
  ⟨some 25, none, .bin .add tI, [.t 22, .t 24]⟩,
  ⟨some 26, none, .bin .sub tI, [.t 25, .int .i64 1]⟩,
  ⟨some 27, none, .mov, [.t 0]⟩,
  ⟨some 28, none, .len, [.t 27]⟩,
  ⟨some 29, none, .bin .rem tI, [.t 26, .t 28]⟩,
  ⟨some 30, none, .iadr t0, [.t 21, .t 29]⟩,
  ⟨some 31, none, .load t0, [.t 30]⟩,
  ⟨some 32, none, .load t0, [.t 7]⟩,
  ⟨some 33, none, .mov, [.t 0]⟩,
  ⟨some 34, none, .mov, [.t 6]⟩,
  ⟨some 35, none, .bin .add tI, [.t 34, .int .i64 1]⟩,
  ⟨some 36, none, .mov, [.t 0]⟩,
  ⟨some 37, none, .len, [.t 36]⟩,
  ⟨some 38, none, .bin .rem tI, [.t 35, .t 37]⟩,
  ⟨some 39, none, .iadr t0, [.t 33, .t 38]⟩,
  ⟨some 40, none, .load t0, [.t 39]⟩,
  ⟨some 41, none, .call 8080 (some 14) [.v tI] false, [.t 31, .t 32, .t 40]⟩,
  ⟨some 42, none, .bin .neq tI, [.t 41, .int .i64 0]⟩])
 (.cond (.t 42) (.reg false [
  ⟨some 43, none, .mov, [.t 5]⟩,
  ⟨some 44, none, .load t0, [.t 7]⟩,
  ⟨some 45, none, .bsl 9008 t0 1 [0], [.t 44]⟩,
  ⟨some 46, none, .app 9012 t0 8796093022208, [.t 43, .t 45]⟩,
  ⟨some 5, none, .mov, [.t 46]⟩]) (.skip)))))
 (.reg false [
  ⟨some 47, none, .bin .add tI, [.t 16, .int .i64 1]⟩,
  ⟨some 16, none, .mov, [.t 47]⟩])))))))
 (.seq (.seq (.reg false [
  ⟨some 48, none, .mov, [.t 0]⟩,
  ⟨some 49, none, .call 11004 (some 15) [.v tI] false, [.t 48]⟩,
  ⟨some 50, none, .bin .lss tI, [.t 49, .int .i64 0]⟩])
 (.cond (.t 50) (.reg false [
  ⟨some 51, none, .mov, [.t 5]⟩,
  ⟨some 52, none, .call 12004 (some 16) [] true, [.t 51]⟩]) (.skip)))
 (.seq (.reg false [
  ⟨some 53, none, .mov, [.t 5]⟩,
  ⟨some 54, none, .mov, [.t 5]⟩,
  ⟨some 55, none, .call 13008 (some 17) [.v t0] false, [.t 54, .fn 18]⟩,
  ⟨some 56, none, .call 13012 (some 19) [.v tI] false, [.t 53, .t 55]⟩,
  ⟨some 8, none, .mov, [.t 56]⟩])
 (.seq (.reg true [
  ⟨some 57, none, .mov, [.t 5]⟩,
  ⟨some 58, none, .mov, [.t 8]⟩,
  ⟨some 59, none, .mov, [.t 5]⟩,
  ⟨some 60, none, .len, [.t 59]⟩,
  ⟨some 61, none, .mov, [.t 5]⟩,
  ⟨some 62, none, .len, [.t 61]⟩,
  ⟨some 63, none, .slice 14024 .snap t0 true true true, [.t 57, .t 58, .t 60, .t 62]⟩,
  ⟨some 64, none, .mov, [.t 5]⟩,
  ⟨some 65, none, .mov, [.t 8]⟩,
  ⟨some 66, none, .slice 14036 .snap t0 false true false, [.t 64, .t 65]⟩,
  ⟨some 67, none, .app 14040 t0 8796093022208, [.t 63, .t 66]⟩,
  ⟨some 2, none, .mov, [.t 67]⟩,
  ⟨some 3, none, .mov, [.int .i64 0]⟩])
 (.ret)))))))⟩
def cf_polygon_Check : Fn := ⟨1, 31, [.t 2], [.v tI], none,
 .seq (.reg false [
  ⟨some 2, none, .mov, [.int .i64 0]⟩])
 (.seq (.seq (.reg false [
  ⟨some 5, none, .mov, [.t 0]⟩,
  ⟨some 6, none, .len, [.t 5]⟩,
  ⟨some 7, none, .bin .gtr tI, [.t 6, .int .i64 40]⟩])
 (.cond (.t 7) (.seq (.reg false [
  ⟨some 2, none, .mov, [.int .i64 5]⟩])
 (.ret)) (.skip)))
 (.seq (.seq (.reg false [
  ⟨some 8, none, .mov, [.t 0]⟩,
  ⟨some 9, none, .len, [.t 8]⟩,
  ⟨some 10, none, .bin .lss tI, [.t 9, .int .i64 3]⟩])
 (.cond (.t 10) (.seq (.reg false [
  ⟨some 2, none, .mov, [.int .i64 11]⟩])
 (.ret)) (.skip)))
 (.seq (.seq (.reg false [
  ⟨some 11, none, .mov, [.t 0]⟩,
  ⟨some 12, none, .len, [.t 11]⟩,
  ⟨some 13, none, .mov, [.int .i64 0]⟩])
 (.block 0 (.loop 100000 [0, 11, 12, 13] (.seq (.reg false [
  ⟨some 14, none, .bin .lss tI, [.t 13, .t 12]⟩])
 (.seq (.cond (.t 14) (.skip) (.exit 0))
 (.seq (.block 1 (.seq (.reg false [
  ⟨some 15, none, .iadr t0, [.t 11, .t 13]⟩,
  ⟨some 16, none, .load t0, [.t 15]⟩,
  ⟨some 4, none, .alloc 7008 t0, []⟩,
  ⟨none, none, .store t0, [.t 4, .t 16]⟩])
 (.seq (.reg false [
  ⟨some 17, none, .fadr t0 [false], [.t 4]⟩,
  ⟨some 18, none, .load tI, [.t 17]⟩,
  ⟨some 19, none, .call 8008 (some 20) [.v .bool] false, [.t 18]⟩,
  ⟨some 20, none, .not, [.t 19]⟩,
  ⟨some 21, none, .mov, [.t 20]⟩,
  ⟨some 22, (some (21, false)), .fadr t0 [true], [.t 4]⟩,
  ⟨some 23, (some (21, false)), .load tI, [.t 22]⟩,
  ⟨some 24, (some (21, false)), .call 8028 (some 20) [.v .bool] false, [.t 23]⟩,
  ⟨some 25, (some (21, false)), .not, [.t 24]⟩,
  ⟨some 26, none, .pick, [.t 21, .bool true, .t 25]⟩])
 (.cond (.t 26) (.seq (.reg false [
  ⟨some 2, none, .mov, [.int .i64 3]⟩])
 (.ret)) (.skip)))))
 (.reg false [
  ⟨some 27, none, .bin .add tI, [.t 13, .int .i64 1]⟩,
  ⟨some 13, none, .mov, [.t 27]⟩])))))))
 (.seq (.seq (.reg false [
  ⟨some 28, none, .mov, [.t 0]⟩,
  ⟨some 29, none, .call 11004 (some 21) [.v .bool] false, [.t 28]⟩,
  ⟨some 30, none, .not, [.t 29]⟩])
 (.cond (.t 30) (.seq (.reg false [
  ⟨some 2, none, .mov, [.int .i64 11]⟩])
 (.ret)) (.skip)))
 (.seq (.reg false [
  ⟨some 2, none, .mov, [.int .i64 0]⟩])
 (.ret))))))⟩
def cf_polygon_turn : Fn := ⟨3, 30, [.t 6], [.v tI], none,
 .seq (.reg false [
  ⟨some 3, none, .box 0 t0, [.t 0]⟩,
  ⟨some 4, none, .box 4 t0, [.t 1]⟩,
  ⟨some 5, none, .box 8 t0, [.t 2]⟩,
  ⟨some 6, none, .mov, [.int .i64 0]⟩])
 (.seq (.reg false [
  ⟨some 7, none, .fadr t0 [false], [.t 4]⟩,
  ⟨some 8, none, .load tI, [.t 7]⟩,
  ⟨some 9, none, .fadr t0 [false], [.t 3]⟩,
  ⟨some 10, none, .load tI, [.t 9]⟩,
  ⟨some 11, none, .bin .sub tI, [.t 8, .t 10]⟩,
  ⟨some 12, none, .fadr t0 [true], [.t 5]⟩,
  ⟨some 13, none, .load tI, [.t 12]⟩,
  ⟨some 14, none, .fadr t0 [true], [.t 4]⟩,
  ⟨some 15, none, .load tI, [.t 14]⟩,
  ⟨some 16, none, .bin .sub tI, [.t 13, .t 15]⟩,
  ⟨some 17, none, .bin .mul tI, [.t 11, .t 16]⟩,
  ⟨some 18, none, .fadr t0 [true], [.t 4]⟩,
  ⟨some 19, none, .load tI, [.t 18]⟩,
  ⟨some 20, none, .fadr t0 [true], [.t 3]⟩,
  ⟨some 21, none, .load tI, [.t 20]⟩,
  ⟨some 22, none, .bin .sub tI, [.t 19, .t 21]⟩,
  ⟨some 23, none, .fadr t0 [false], [.t 5]⟩,
  ⟨some 24, none, .load tI, [.t 23]⟩,
  ⟨some 25, none, .fadr t0 [false], [.t 4]⟩,
  ⟨some 26, none, .load tI, [.t 25]⟩,
  ⟨some 27, none, .bin .sub tI, [.t 24, .t 26]⟩,
  ⟨some 28, none, .bin .mul tI, [.t 22, .t 27]⟩,
  ⟨some 29, none, .bin .sub tI, [.t 17, .t 28]⟩,
  ⟨some 6, none, .mov, [.t 29]⟩])
 (.ret))⟩
def cf_polygon_area : Fn := ⟨1, 33, [.t 2], [.v tI], none,
 .seq (.reg false [
  ⟨some 2, none, .mov, [.int .i64 0]⟩])
 (.seq (.reg false [
  ⟨some 3, none, .mov, [.int .i64 0]⟩])
 (.seq (.seq (.reg false [
  ⟨some 6, none, .mov, [.t 0]⟩,
  ⟨some 7, none, .call 2004 (some 22) [.o t1] false, [.t 6]⟩,
  ⟨some 8, none, .len, [.t 7]⟩,
  ⟨some 9, none, .mov, [.int .i64 0]⟩])
 (.block 0 (.loop 100000 [3, 7, 8, 9] (.seq (.reg false [
  ⟨some 10, none, .bin .lss tI, [.t 9, .t 8]⟩])
 (.seq (.cond (.t 10) (.skip) (.exit 0))
 (.seq (.block 1 (.seq (.reg false [
  ⟨some 11, none, .iadr t1, [.t 7, .t 9]⟩,
  ⟨some 12, none, .load t1, [.t 11]⟩,
  ⟨some 5, none, .alloc 4008 t1, []⟩,
  ⟨none, none, .store t1, [.t 5, .t 12]⟩])
 (.reg false [
  ⟨some 13, none, .mov, [.t 3]⟩,
  ⟨some 14, none, .fadr t1 [true], [.t 5]⟩,
  ⟨some 15, none, .fadr t0 [false], [.t 14]⟩,
  ⟨some 16, none, .load tI, [.t 15]⟩,
  ⟨some 17, none, .fadr t1 [false], [.t 5]⟩,
  ⟨some 18, none, .fadr t0 [false], [.t 17]⟩,
  ⟨some 19, none, .load tI, [.t 18]⟩,
  ⟨some 20, none, .bin .sub tI, [.t 16, .t 19]⟩,
  ⟨some 21, none, .fadr t1 [false], [.t 5]⟩,
  ⟨some 22, none, .fadr t0 [true], [.t 21]⟩,
  ⟨some 23, none, .load tI, [.t 22]⟩,
  ⟨some 24, none, .fadr t1 [true], [.t 5]⟩,
  ⟨some 25, none, .fadr t0 [true], [.t 24]⟩,
  ⟨some 26, none, .load tI, [.t 25]⟩,
  ⟨some 27, none, .bin .add tI, [.t 23, .t 26]⟩,
  ⟨some 28, none, .bin .mul tI, [.t 20, .t 27]⟩,
  ⟨some 29, none, .bin .add tI, [.t 13, .t 28]⟩,
  ⟨some 3, none, .mov, [.t 29]⟩])))
 (.reg false [
  ⟨some 30, none, .bin .add tI, [.t 9, .int .i64 1]⟩,
  ⟨some 9, none, .mov, [.t 30]⟩])))))))
 (.seq (.reg false [
  ⟨some 31, none, .mov, [.t 3]⟩,
  ⟨some 32, none, .neg .i64, [.t 31]⟩,
  ⟨some 2, none, .mov, [.t 32]⟩])
 (.ret))))⟩
def cf_slices_Reverse_api_Spot_api_Spot : Fn := ⟨1, 28, [], [], none,
 .seq (.reg false [
  ⟨some 4, none, .mov, [.t 0]⟩,
  ⟨some 5, none, .len, [.t 4]⟩,
  ⟨some 6, none, .bin .sub tI, [.t 5, .int .i64 1]⟩,
  ⟨some 2, none, .mov, [.int .i64 0]⟩,
  ⟨some 3, none, .mov, [.t 6]⟩])
 (.block 0 (.loop 100000 [0, 2, 3] (.seq (.seq (.reg false [
  ⟨some 7, none, .mov, [.t 2]⟩,
  ⟨some 8, none, .mov, [.t 3]⟩,
  ⟨some 9, none, .bin .lss tI, [.t 7, .t 8]⟩])
 (.cond (.t 9) (.skip) (.exit 0)))
 (.seq (.block 1 (.reg true [
  ⟨some 14, none, .mov, [.t 0]⟩,
  ⟨some 15, none, .mov, [.t 2]⟩,
  ⟨some 16, none, .mov, [.t 0]⟩,
  ⟨some 17, none, .mov, [.t 3]⟩,
  ⟨some 18, none, .mov, [.t 0]⟩,
  ⟨some 19, none, .mov, [.t 3]⟩,
  ⟨some 20, none, .iadr t0, [.t 18, .t 19]⟩,
  ⟨some 21, none, .load t0, [.t 20]⟩,
  ⟨some 22, none, .mov, [.t 0]⟩,
  ⟨some 23, none, .mov, [.t 2]⟩,
  ⟨some 24, none, .iadr t0, [.t 22, .t 23]⟩,
  ⟨some 25, none, .load t0, [.t 24]⟩,
  ⟨some 26, none, .iadr t0, [.t 14, .t 15]⟩,
  ⟨none, none, .store t0, [.t 26, .t 21]⟩,
  ⟨some 27, none, .iadr t0, [.t 16, .t 17]⟩,
  ⟨none, none, .store t0, [.t 27, .t 25]⟩]))
 (.reg false [
  ⟨some 10, none, .mov, [.t 2]⟩,
  ⟨some 11, none, .bin .add tI, [.t 10, .int .i64 1]⟩,
  ⟨some 12, none, .mov, [.t 3]⟩,
  ⟨some 13, none, .bin .sub tI, [.t 12, .int .i64 1]⟩,
  ⟨some 2, none, .mov, [.t 11]⟩,
  ⟨some 3, none, .mov, [.t 13]⟩])))))⟩
def cf_slices_MinFunc_api_Spot_api_Spot : Fn := ⟨2, 33, [.c 4 t0], [.v t0], none,
 .seq (.reg false [
  ⟨some 4, none, .alloc 0 t0, []⟩])
 (.seq (.seq (.reg false [
  ⟨some 7, none, .mov, [.t 0]⟩,
  ⟨some 8, none, .len, [.t 7]⟩,
  ⟨some 9, none, .bin .lss tI, [.t 8, .int .i64 1]⟩])
 (.cond (.t 9) (.reg false [
  ⟨some 10, none, .cap, []⟩,
  ⟨none, none, .cap, []⟩]) (.skip)))
 (.seq (.reg false [
  ⟨some 11, none, .mov, [.t 0]⟩,
  ⟨some 12, none, .iadr t0, [.t 11, .int .i64 0]⟩,
  ⟨some 13, none, .load t0, [.t 12]⟩,
  ⟨some 5, none, .alloc 3012 t0, []⟩,
  ⟨none, none, .store t0, [.t 5, .t 13]⟩])
 (.seq (.seq (.reg false [
  ⟨some 6, none, .mov, [.int .i64 1]⟩])
 (.block 0 (.loop 100000 [0, 1, 4, 5, 6] (.seq (.seq (.reg false [
  ⟨some 14, none, .mov, [.t 6]⟩,
  ⟨some 15, none, .mov, [.t 0]⟩,
  ⟨some 16, none, .len, [.t 15]⟩,
  ⟨some 17, none, .bin .lss tI, [.t 14, .t 16]⟩])
 (.cond (.t 17) (.skip) (.exit 0)))
 (.seq (.block 1 (.seq (.reg true [
  ⟨some 20, none, .mov, [.t 1]⟩,
  ⟨some 21, none, .mov, [.t 0]⟩,
  ⟨some 22, none, .mov, [.t 6]⟩,
  ⟨some 23, none, .iadr t0, [.t 21, .t 22]⟩,
  ⟨some 24, none, .load t0, [.t 23]⟩,
  ⟨some 25, none, .load t0, [.t 5]⟩,
  ⟨some 26, none, .call 7024 none [.v tI] false, [.t 20, .t 24, .t 25]⟩,
  ⟨some 27, none, .bin .lss tI, [.t 26, .int .i64 0]⟩])
 (.cond (.t 27) (.reg false [
  ⟨some 28, none, .mov, [.t 0]⟩,
  ⟨some 29, none, .mov, [.t 6]⟩,
  ⟨some 30, none, .iadr t0, [.t 28, .t 29]⟩,
  ⟨some 31, none, .load t0, [.t 30]⟩,
  ⟨none, none, .store t0, [.t 5, .t 31]⟩]) (.skip))))
 (.reg false [
  ⟨some 18, none, .mov, [.t 6]⟩,
  ⟨some 19, none, .bin .add tI, [.t 18, .int .i64 1]⟩,
  ⟨some 6, none, .mov, [.t 19]⟩]))))))
 (.seq (.reg false [
  ⟨some 32, none, .load t0, [.t 5]⟩,
  ⟨none, none, .store t0, [.t 4, .t 32]⟩])
 (.ret)))))⟩
def cf_polygon_order : Fn := ⟨2, 29, [.t 4], [.v tI], none,
 .seq (.reg false [
  ⟨some 2, none, .box 0 t0, [.t 0]⟩,
  ⟨some 3, none, .box 4 t0, [.t 1]⟩,
  ⟨some 4, none, .mov, [.int .i64 0]⟩])
 (.seq (.block 0 (.seq (.reg false [
  ⟨some 6, none, .load t0, [.t 2]⟩,
  ⟨some 7, none, .load t0, [.t 3]⟩,
  ⟨some 8, none, .bin .eql t0, [.t 6, .t 7]⟩,
  ⟨some 5, none, .mov, [.t 8]⟩])
 (.cond (.t 5) (.seq (.reg false [
  ⟨some 4, none, .mov, [.int .i64 0]⟩])
 (.ret)) (.seq (.reg false [
  ⟨some 10, none, .fadr t0 [false], [.t 2]⟩,
  ⟨some 11, none, .load tI, [.t 10]⟩,
  ⟨some 12, none, .fadr t0 [false], [.t 3]⟩,
  ⟨some 13, none, .load tI, [.t 12]⟩,
  ⟨some 14, none, .bin .lss tI, [.t 11, .t 13]⟩,
  ⟨some 15, none, .mov, [.t 14]⟩,
  ⟨some 16, (some (15, false)), .fadr t0 [false], [.t 2]⟩,
  ⟨some 17, (some (15, false)), .load tI, [.t 16]⟩,
  ⟨some 18, (some (15, false)), .fadr t0 [false], [.t 3]⟩,
  ⟨some 19, (some (15, false)), .load tI, [.t 18]⟩,
  ⟨some 20, (some (15, false)), .bin .eql tI, [.t 17, .t 19]⟩,
  ⟨some 21, (some (15, false)), .mov, [.t 20]⟩,
  ⟨some 22, (some (21, true)), .fadr t0 [true], [.t 2]⟩,
  ⟨some 23, (some (21, true)), .load tI, [.t 22]⟩,
  ⟨some 24, (some (21, true)), .fadr t0 [true], [.t 3]⟩,
  ⟨some 25, (some (21, true)), .load tI, [.t 24]⟩,
  ⟨some 26, (some (21, true)), .bin .lss tI, [.t 23, .t 25]⟩,
  ⟨some 27, (some (15, false)), .pick, [.t 21, .t 26, .bool false]⟩,
  ⟨some 28, none, .pick, [.t 15, .bool true, .t 27]⟩,
  ⟨some 9, none, .mov, [.t 28]⟩])
 (.cond (.t 9) (.seq (.reg false [
  ⟨some 4, none, .mov, [.int .i64 (-1)]⟩])
 (.ret)) (.skip))))))
 (.seq (.reg false [
  ⟨some 4, none, .mov, [.int .i64 1]⟩])
 (.ret)))⟩
def cf_slices_Index_api_Spot_api_Spot : Fn := ⟨2, 19, [.t 4], [.v tI], none,
 .seq (.reg false [
  ⟨some 3, none, .box 0 t0, [.t 1]⟩,
  ⟨some 4, none, .mov, [.int .i64 0]⟩])
 (.seq (.seq (.reg false [
  ⟨some 6, none, .mov, [.t 0]⟩,
  ⟨some 7, none, .len, [.t 6]⟩,
  ⟨some 8, none, .mov, [.int .i64 0]⟩])
 (.block 0 (.loop 100000 [0, 3, 7, 8] (.seq (.reg false [
  ⟨some 9, none, .bin .lss tI, [.t 8, .t 7]⟩])
 (.seq (.cond (.t 9) (.skip) (.exit 0))
 (.seq (.block 1 (.seq (.reg false [
  ⟨some 10, none, .mov, [.t 8]⟩,
  ⟨some 5, none, .mov, [.t 10]⟩])
 (.seq (.reg true [
  ⟨some 11, none, .load t0, [.t 3]⟩,
  ⟨some 12, none, .mov, [.t 0]⟩,
  ⟨some 13, none, .mov, [.t 5]⟩,
  ⟨some 14, none, .iadr t0, [.t 12, .t 13]⟩,
  ⟨some 15, none, .load t0, [.t 14]⟩,
  ⟨some 16, none, .bin .eql t0, [.t 11, .t 15]⟩])
 (.cond (.t 16) (.seq (.reg false [
  ⟨some 17, none, .mov, [.t 5]⟩,
  ⟨some 4, none, .mov, [.t 17]⟩])
 (.ret)) (.skip)))))
 (.reg false [
  ⟨some 18, none, .bin .add tI, [.t 8, .int .i64 1]⟩,
  ⟨some 8, none, .mov, [.t 18]⟩])))))))
 (.seq (.reg false [
  ⟨some 4, none, .mov, [.int .i64 (-1)]⟩])
 (.ret)))⟩
def cf_polygon_inside : Fn := ⟨1, 9, [.t 2], [.v .bool], none,
 .seq (.reg false [
  ⟨some 2, none, .mov, [.bool false]⟩])
 (.seq (.reg false [
  ⟨some 3, none, .mov, [.t 0]⟩,
  ⟨some 4, none, .bin .geq tI, [.t 3, .int .i64 (-1048576)]⟩,
  ⟨some 5, none, .mov, [.t 4]⟩,
  ⟨some 6, (some (5, true)), .mov, [.t 0]⟩,
  ⟨some 7, (some (5, true)), .bin .leq tI, [.t 6, .int .i64 1048576]⟩,
  ⟨some 8, none, .pick, [.t 5, .t 7, .bool false]⟩,
  ⟨some 2, none, .mov, [.t 8]⟩])
 (.ret))⟩
def cf_polygon_simple : Fn := ⟨1, 64, [.t 2], [.v .bool], none,
 .seq (.reg false [
  ⟨some 2, none, .mov, [.bool false]⟩])
 (.seq (.reg false [
  ⟨some 8, none, .mov, [.t 0]⟩,
  ⟨some 9, none, .call 1004 (some 22) [.o t1] false, [.t 8]⟩,
  ⟨some 3, none, .mov, [.t 9]⟩])
 (.seq (.seq (.reg false [
  ⟨some 10, none, .mov, [.t 3]⟩,
  ⟨some 11, none, .len, [.t 10]⟩,
  ⟨some 12, none, .mov, [.int .i64 0]⟩])
 (.block 0 (.loop 100000 [3, 10, 11, 12] (.seq (.reg false [
  ⟨some 13, none, .bin .lss tI, [.t 12, .t 11]⟩])
 (.seq (.cond (.t 13) (.skip) (.exit 0))
 (.seq (.block 1 (.seq (.reg false [
  ⟨some 14, none, .mov, [.t 12]⟩,
  ⟨some 15, none, .iadr t1, [.t 10, .t 12]⟩,
  ⟨some 16, none, .load t1, [.t 15]⟩,
  ⟨some 5, none, .alloc 4012 t1, []⟩,
  ⟨some 4, none, .mov, [.t 14]⟩,
  ⟨none, none, .store t1, [.t 5, .t 16]⟩])
 (.seq (.seq (.reg false [
  ⟨some 17, none, .fadr t1 [false], [.t 5]⟩,
  ⟨some 18, none, .load t0, [.t 17]⟩,
  ⟨some 19, none, .fadr t1 [true], [.t 5]⟩,
  ⟨some 20, none, .load t0, [.t 19]⟩,
  ⟨some 21, none, .bin .eql t0, [.t 18, .t 20]⟩])
 (.cond (.t 21) (.seq (.reg false [
  ⟨some 2, none, .mov, [.bool false]⟩])
 (.ret)) (.skip)))
 (.seq (.reg false [
  ⟨some 22, none, .mov, [.t 3]⟩,
  ⟨some 23, none, .mov, [.t 4]⟩,
  ⟨some 24, none, .bin .add tI, [.t 23, .int .i64 1]⟩,
  ⟨some 25, none, .mov, [.t 3]⟩,
  ⟨some 26, none, .len, [.t 25]⟩,
  ⟨some 27, none, .bin .rem tI, [.t 24, .t 26]⟩,
  ⟨some 28, none, .iadr t1, [.t 22, .t 27]⟩,
  ⟨some 29, none, .load t1, [.t 28]⟩,
  ⟨some 6, none, .alloc 7032 t1, []⟩,
  ⟨none, none, .store t1, [.t 6, .t 29]⟩])
 (.seq (.seq (.reg false [
  ⟨some 30, none, .load t1, [.t 5]⟩,
  ⟨some 31, none, .fadr t1 [true], [.t 6]⟩,
  ⟨some 32, none, .load t0, [.t 31]⟩,
  ⟨some 33, none, .call 8012 (some 23) [.v .bool] false, [.t 30, .t 32]⟩,
  ⟨some 34, none, .mov, [.t 33]⟩,
  ⟨some 35, (some (34, false)), .load t1, [.t 6]⟩,
  ⟨some 36, (some (34, false)), .fadr t1 [false], [.t 5]⟩,
  ⟨some 37, (some (34, false)), .load t0, [.t 36]⟩,
  ⟨some 38, (some (34, false)), .call 8032 (some 23) [.v .bool] false, [.t 35, .t 37]⟩,
  ⟨some 39, none, .pick, [.t 34, .bool true, .t 38]⟩])
 (.cond (.t 39) (.seq (.reg false [
  ⟨some 2, none, .mov, [.bool false]⟩])
 (.ret)) (.skip)))
 (.seq (.reg false [
  ⟨some 40, none, .mov, [.t 4]⟩,
  ⟨some 41, none, .bin .add tI, [.t 40, .int .i64 2]⟩,
  ⟨some 7, none, .mov, [.t 41]⟩])
 (.block 2 (.loop 200000 [3, 4, 5, 7, 10, 11, 12] (.seq (.seq (.reg false [
  ⟨some 42, none, .mov, [.t 7]⟩,
  ⟨some 43, none, .mov, [.t 3]⟩,
  ⟨some 44, none, .len, [.t 43]⟩,
  ⟨some 45, none, .bin .lss tI, [.t 42, .t 44]⟩])
 (.cond (.t 45) (.skip) (.exit 2)))
 (.seq (.block 3 (.seq (.seq (.reg false [
  ⟨some 48, none, .mov, [.t 4]⟩,
  ⟨some 49, none, .bin .eql tI, [.t 48, .int .i64 0]⟩,
  ⟨some 50, none, .mov, [.t 49]⟩,
  ⟨some 51, (some (50, true)), .mov, [.t 7]⟩,
  ⟨some 52, (some (50, true)), .mov, [.t 3]⟩,
  ⟨some 53, (some (50, true)), .len, [.t 52]⟩,
  ⟨some 54, (some (50, true)), .bin .sub tI, [.t 53, .int .i64 1]⟩,
  ⟨some 55, (some (50, true)), .bin .eql tI, [.t 51, .t 54]⟩,
  ⟨some 56, none, .pick, [.t 50, .t 55, .bool false]⟩])
 (.cond (.t 56) (.exit 3) (.skip)))
 (.seq (.reg true [
  ⟨some 57, none, .load t1, [.t 5]⟩,
  ⟨some 58, none, .mov, [.t 3]⟩,
  ⟨some 59, none, .mov, [.t 7]⟩,
  ⟨some 60, none, .iadr t1, [.t 58, .t 59]⟩,
  ⟨some 61, none, .load t1, [.t 60]⟩,
  ⟨some 62, none, .call 14020 (some 24) [.v .bool] false, [.t 57, .t 61]⟩])
 (.cond (.t 62) (.seq (.reg false [
  ⟨some 2, none, .mov, [.bool false]⟩])
 (.ret)) (.skip)))))
 (.reg false [
  ⟨some 46, none, .mov, [.t 7]⟩,
  ⟨some 47, none, .bin .add tI, [.t 46, .int .i64 1]⟩,
  ⟨some 7, none, .mov, [.t 47]⟩])))))))))))
 (.reg false [
  ⟨some 63, none, .bin .add tI, [.t 12, .int .i64 1]⟩,
  ⟨some 12, none, .mov, [.t 63]⟩])))))))
 (.seq (.reg false [
  ⟨some 2, none, .mov, [.bool true]⟩])
 (.ret))))⟩
def cf_polygon_sides : Fn := ⟨1, 31, [.t 2], [.o t1], none,
 .seq (.reg false [
  ⟨some 2, none, .own0 0 t1, []⟩])
 (.seq (.reg false [
  ⟨some 6, none, .mov, [.t 0]⟩,
  ⟨some 7, none, .len, [.t 6]⟩,
  ⟨some 8, none, .mksl 1008 t1 8796093022208, [.t 7, .t 7]⟩,
  ⟨some 3, none, .mov, [.t 8]⟩])
 (.seq (.seq (.reg false [
  ⟨some 9, none, .mov, [.t 0]⟩,
  ⟨some 10, none, .len, [.t 9]⟩,
  ⟨some 11, none, .mov, [.int .i64 0]⟩])
 (.block 0 (.loop 100000 [0, 3, 9, 10, 11] (.seq (.reg false [
  ⟨some 12, none, .bin .lss tI, [.t 11, .t 10]⟩])
 (.seq (.cond (.t 12) (.skip) (.exit 0))
 (.seq (.block 1 (.seq (.reg false [
  ⟨some 13, none, .mov, [.t 11]⟩,
  ⟨some 14, none, .iadr t0, [.t 9, .t 11]⟩,
  ⟨some 15, none, .load t0, [.t 14]⟩,
  ⟨some 5, none, .alloc 4012 t0, []⟩,
  ⟨some 4, none, .mov, [.t 13]⟩,
  ⟨none, none, .store t0, [.t 5, .t 15]⟩])
 (.reg true [
  ⟨some 16, none, .mov, [.t 3]⟩,
  ⟨some 17, none, .mov, [.t 4]⟩,
  ⟨some 18, none, .load t0, [.t 5]⟩,
  ⟨some 19, none, .mov, [.t 0]⟩,
  ⟨some 20, none, .mov, [.t 4]⟩,
  ⟨some 21, none, .bin .add tI, [.t 20, .int .i64 1]⟩,
  ⟨some 22, none, .mov, [.t 0]⟩,
  ⟨some 23, none, .len, [.t 22]⟩,
  ⟨some 24, none, .bin .rem tI, [.t 21, .t 23]⟩,
  ⟨some 25, none, .iadr t0, [.t 19, .t 24]⟩,
  ⟨some 26, none, .load t0, [.t 25]⟩,
  ⟨some 27, none, .build t1 [([false], t0), ([true], t0)], [.t 18, .t 26]⟩,
  ⟨some 28, none, .iadr t1, [.t 16, .t 17]⟩,
  ⟨none, none, .store t1, [.t 28, .t 27]⟩])))
 (.reg false [
  ⟨some 29, none, .bin .add tI, [.t 11, .int .i64 1]⟩,
  ⟨some 11, none, .mov, [.t 29]⟩])))))))
 (.seq (.reg false [
  ⟨some 30, none, .mov, [.t 3]⟩,
  ⟨some 2, none, .mov, [.t 30]⟩])
 (.ret))))⟩
def cf_polygon_side_holds : Fn := ⟨2, 34, [.t 4], [.v .bool], none,
 .seq (.reg false [
  ⟨some 2, none, .box 0 t1, [.t 0]⟩,
  ⟨some 3, none, .box 4 t0, [.t 1]⟩,
  ⟨some 4, none, .mov, [.bool false]⟩])
 (.seq (.reg false [
  ⟨some 5, none, .fadr t1 [false], [.t 2]⟩,
  ⟨some 6, none, .load t0, [.t 5]⟩,
  ⟨some 7, none, .fadr t1 [true], [.t 2]⟩,
  ⟨some 8, none, .load t0, [.t 7]⟩,
  ⟨some 9, none, .load t0, [.t 3]⟩,
  ⟨some 10, none, .call 1020 (some 14) [.v tI] false, [.t 6, .t 8, .t 9]⟩,
  ⟨some 11, none, .bin .eql tI, [.t 10, .int .i64 0]⟩,
  ⟨some 12, none, .mov, [.t 11]⟩,
  ⟨some 13, (some (12, true)), .fadr t0 [false], [.t 3]⟩,
  ⟨some 14, (some (12, true)), .load tI, [.t 13]⟩,
  ⟨some 15, (some (12, true)), .fadr t1 [false], [.t 2]⟩,
  ⟨some 16, (some (12, true)), .fadr t0 [false], [.t 15]⟩,
  ⟨some 17, (some (12, true)), .load tI, [.t 16]⟩,
  ⟨some 18, (some (12, true)), .fadr t1 [true], [.t 2]⟩,
  ⟨some 19, (some (12, true)), .fadr t0 [false], [.t 18]⟩,
  ⟨some 20, (some (12, true)), .load tI, [.t 19]⟩,
  ⟨some 21, (some (12, true)), .call 1064 (some 25) [.v .bool] false, [.t 14, .t 17, .t 20]⟩,
  ⟨some 22, none, .pick, [.t 12, .t 21, .bool false]⟩,
  ⟨some 23, none, .mov, [.t 22]⟩,
  ⟨some 24, (some (23, true)), .fadr t0 [true], [.t 3]⟩,
  ⟨some 25, (some (23, true)), .load tI, [.t 24]⟩,
  ⟨some 26, (some (23, true)), .fadr t1 [false], [.t 2]⟩,
  ⟨some 27, (some (23, true)), .fadr t0 [true], [.t 26]⟩,
  ⟨some 28, (some (23, true)), .load tI, [.t 27]⟩,
  ⟨some 29, (some (23, true)), .fadr t1 [true], [.t 2]⟩,
  ⟨some 30, (some (23, true)), .fadr t0 [true], [.t 29]⟩,
  ⟨some 31, (some (23, true)), .load tI, [.t 30]⟩,
  ⟨some 32, (some (23, true)), .call 1108 (some 25) [.v .bool] false, [.t 25, .t 28, .t 31]⟩,
  ⟨some 33, none, .pick, [.t 23, .t 32, .bool false]⟩,
  ⟨some 4, none, .mov, [.t 33]⟩])
 (.ret))⟩
def cf_polygon_side_meets : Fn := ⟨2, 43, [.t 4], [.v .bool], none,
 .seq (.reg false [
  ⟨some 2, none, .box 0 t1, [.t 0]⟩,
  ⟨some 3, none, .box 4 t1, [.t 1]⟩,
  ⟨some 4, none, .mov, [.bool false]⟩])
 (.seq (.reg false [
  ⟨some 5, none, .load t1, [.t 2]⟩,
  ⟨some 6, none, .fadr t1 [false], [.t 3]⟩,
  ⟨some 7, none, .load t0, [.t 6]⟩,
  ⟨some 8, none, .call 1012 (some 23) [.v .bool] false, [.t 5, .t 7]⟩,
  ⟨some 9, none, .mov, [.t 8]⟩,
  ⟨some 10, (some (9, false)), .load t1, [.t 2]⟩,
  ⟨some 11, (some (9, false)), .fadr t1 [true], [.t 3]⟩,
  ⟨some 12, (some (9, false)), .load t0, [.t 11]⟩,
  ⟨some 13, (some (9, false)), .call 1032 (some 23) [.v .bool] false, [.t 10, .t 12]⟩,
  ⟨some 14, none, .pick, [.t 9, .bool true, .t 13]⟩,
  ⟨some 15, none, .mov, [.t 14]⟩,
  ⟨some 16, (some (15, false)), .load t1, [.t 3]⟩,
  ⟨some 17, (some (15, false)), .fadr t1 [false], [.t 2]⟩,
  ⟨some 18, (some (15, false)), .load t0, [.t 17]⟩,
  ⟨some 19, (some (15, false)), .call 1056 (some 23) [.v .bool] false, [.t 16, .t 18]⟩,
  ⟨some 20, none, .pick, [.t 15, .bool true, .t 19]⟩,
  ⟨some 21, none, .mov, [.t 20]⟩,
  ⟨some 22, (some (21, false)), .load t1, [.t 3]⟩,
  ⟨some 23, (some (21, false)), .fadr t1 [true], [.t 2]⟩,
  ⟨some 24, (some (21, false)), .load t0, [.t 23]⟩,
  ⟨some 25, (some (21, false)), .call 1080 (some 23) [.v .bool] false, [.t 22, .t 24]⟩,
  ⟨some 26, none, .pick, [.t 21, .bool true, .t 25]⟩,
  ⟨some 27, none, .mov, [.t 26]⟩,
  ⟨some 28, (some (27, false)), .load t1, [.t 2]⟩,
  ⟨some 29, (some (27, false)), .fadr t1 [false], [.t 3]⟩,
  ⟨some 30, (some (27, false)), .load t0, [.t 29]⟩,
  ⟨some 31, (some (27, false)), .fadr t1 [true], [.t 3]⟩,
  ⟨some 32, (some (27, false)), .load t0, [.t 31]⟩,
  ⟨some 33, (some (27, false)), .call 1112 (some 26) [.v .bool] false, [.t 28, .t 30, .t 32]⟩,
  ⟨some 34, (some (27, false)), .mov, [.t 33]⟩,
  ⟨some 35, (some (34, true)), .load t1, [.t 3]⟩,
  ⟨some 36, (some (34, true)), .fadr t1 [false], [.t 2]⟩,
  ⟨some 37, (some (34, true)), .load t0, [.t 36]⟩,
  ⟨some 38, (some (34, true)), .fadr t1 [true], [.t 2]⟩,
  ⟨some 39, (some (34, true)), .load t0, [.t 38]⟩,
  ⟨some 40, (some (34, true)), .call 1140 (some 26) [.v .bool] false, [.t 35, .t 37, .t 39]⟩,
  ⟨some 41, (some (27, false)), .pick, [.t 34, .t 40, .bool false]⟩,
  ⟨some 42, none, .pick, [.t 27, .bool true, .t 41]⟩,
  ⟨some 4, none, .mov, [.t 42]⟩])
 (.ret))⟩
def cf_polygon_within : Fn := ⟨3, 19, [.t 6], [.v .bool], none,
 .seq (.reg false [
  ⟨some 6, none, .mov, [.bool false]⟩])
 (.seq (.reg false [
  ⟨some 7, none, .mov, [.t 1]⟩,
  ⟨some 8, none, .mov, [.t 2]⟩,
  ⟨some 9, none, .mm false .i64, [.t 7, .t 8]⟩,
  ⟨some 10, none, .mov, [.t 0]⟩,
  ⟨some 11, none, .bin .leq tI, [.t 9, .t 10]⟩,
  ⟨some 12, none, .mov, [.t 11]⟩,
  ⟨some 13, (some (12, true)), .mov, [.t 0]⟩,
  ⟨some 14, (some (12, true)), .mov, [.t 1]⟩,
  ⟨some 15, (some (12, true)), .mov, [.t 2]⟩,
  ⟨some 16, (some (12, true)), .mm true .i64, [.t 14, .t 15]⟩,
  ⟨some 17, (some (12, true)), .bin .leq tI, [.t 13, .t 16]⟩,
  ⟨some 18, none, .pick, [.t 12, .t 17, .bool false]⟩,
  ⟨some 6, none, .mov, [.t 18]⟩])
 (.ret))⟩
def cf_polygon_side_divides : Fn := ⟨3, 35, [.t 6], [.v .bool], none,
 .seq (.reg false [
  ⟨some 3, none, .box 0 t1, [.t 0]⟩,
  ⟨some 4, none, .box 4 t0, [.t 1]⟩,
  ⟨some 5, none, .box 8 t0, [.t 2]⟩,
  ⟨some 6, none, .mov, [.bool false]⟩])
 (.seq (.reg true [
  ⟨some 9, none, .fadr t1 [false], [.t 3]⟩,
  ⟨some 10, none, .load t0, [.t 9]⟩,
  ⟨some 11, none, .fadr t1 [true], [.t 3]⟩,
  ⟨some 12, none, .load t0, [.t 11]⟩,
  ⟨some 13, none, .load t0, [.t 4]⟩,
  ⟨some 14, none, .call 1020 (some 14) [.v tI] false, [.t 10, .t 12, .t 13]⟩,
  ⟨some 15, none, .fadr t1 [false], [.t 3]⟩,
  ⟨some 16, none, .load t0, [.t 15]⟩,
  ⟨some 17, none, .fadr t1 [true], [.t 3]⟩,
  ⟨some 18, none, .load t0, [.t 17]⟩,
  ⟨some 19, none, .load t0, [.t 5]⟩,
  ⟨some 20, none, .call 1044 (some 14) [.v tI] false, [.t 16, .t 18, .t 19]⟩,
  ⟨some 7, none, .mov, [.t 14]⟩,
  ⟨some 8, none, .mov, [.t 20]⟩])
 (.seq (.reg false [
  ⟨some 21, none, .mov, [.t 7]⟩,
  ⟨some 22, none, .bin .lss tI, [.t 21, .int .i64 0]⟩,
  ⟨some 23, none, .mov, [.t 22]⟩,
  ⟨some 24, (some (23, true)), .mov, [.t 8]⟩,
  ⟨some 25, (some (23, true)), .bin .gtr tI, [.t 24, .int .i64 0]⟩,
  ⟨some 26, none, .pick, [.t 23, .t 25, .bool false]⟩,
  ⟨some 27, none, .mov, [.t 26]⟩,
  ⟨some 28, (some (27, false)), .mov, [.t 7]⟩,
  ⟨some 29, (some (27, false)), .bin .gtr tI, [.t 28, .int .i64 0]⟩,
  ⟨some 30, (some (27, false)), .mov, [.t 29]⟩,
  ⟨some 31, (some (30, true)), .mov, [.t 8]⟩,
  ⟨some 32, (some (30, true)), .bin .lss tI, [.t 31, .int .i64 0]⟩,
  ⟨some 33, (some (27, false)), .pick, [.t 30, .t 32, .bool false]⟩,
  ⟨some 34, none, .pick, [.t 27, .bool true, .t 33]⟩,
  ⟨some 6, none, .mov, [.t 34]⟩])
 (.ret)))⟩
def cf_garmentref11_Cross : Fn := ⟨3, 30, [.t 6], [.v tI], none,
 .seq (.reg false [
  ⟨some 3, none, .box 0 t0, [.t 0]⟩,
  ⟨some 4, none, .box 4 t0, [.t 1]⟩,
  ⟨some 5, none, .box 8 t0, [.t 2]⟩,
  ⟨some 6, none, .mov, [.int .i64 0]⟩])
 (.seq (.reg false [
  ⟨some 7, none, .fadr t0 [false], [.t 4]⟩,
  ⟨some 8, none, .load tI, [.t 7]⟩,
  ⟨some 9, none, .fadr t0 [false], [.t 3]⟩,
  ⟨some 10, none, .load tI, [.t 9]⟩,
  ⟨some 11, none, .bin .sub tI, [.t 8, .t 10]⟩,
  ⟨some 12, none, .fadr t0 [true], [.t 5]⟩,
  ⟨some 13, none, .load tI, [.t 12]⟩,
  ⟨some 14, none, .fadr t0 [true], [.t 3]⟩,
  ⟨some 15, none, .load tI, [.t 14]⟩,
  ⟨some 16, none, .bin .sub tI, [.t 13, .t 15]⟩,
  ⟨some 17, none, .bin .mul tI, [.t 11, .t 16]⟩,
  ⟨some 18, none, .fadr t0 [true], [.t 4]⟩,
  ⟨some 19, none, .load tI, [.t 18]⟩,
  ⟨some 20, none, .fadr t0 [true], [.t 3]⟩,
  ⟨some 21, none, .load tI, [.t 20]⟩,
  ⟨some 22, none, .bin .sub tI, [.t 19, .t 21]⟩,
  ⟨some 23, none, .fadr t0 [false], [.t 5]⟩,
  ⟨some 24, none, .load tI, [.t 23]⟩,
  ⟨some 25, none, .fadr t0 [false], [.t 3]⟩,
  ⟨some 26, none, .load tI, [.t 25]⟩,
  ⟨some 27, none, .bin .sub tI, [.t 24, .t 26]⟩,
  ⟨some 28, none, .bin .mul tI, [.t 22, .t 27]⟩,
  ⟨some 29, none, .bin .sub tI, [.t 17, .t 28]⟩,
  ⟨some 6, none, .mov, [.t 29]⟩])
 (.ret))⟩
def cf_polygon_Area2 : Fn := ⟨1, 8, [.t 2], [.v tI], none,
 .seq (.reg false [
  ⟨some 2, none, .mov, [.int .i64 0]⟩])
 (.seq (.seq (.reg false [
  ⟨some 3, none, .mov, [.t 0]⟩,
  ⟨some 4, none, .call 1004 (some 13) [.v tI] false, [.t 3]⟩,
  ⟨some 5, none, .bin .neq tI, [.t 4, .int .i64 0]⟩])
 (.cond (.t 5) (.seq (.reg false [
  ⟨some 2, none, .mov, [.int .i64 0]⟩])
 (.ret)) (.skip)))
 (.seq (.reg false [
  ⟨some 6, none, .mov, [.t 0]⟩,
  ⟨some 7, none, .call 3004 (some 15) [.v tI] false, [.t 6]⟩,
  ⟨some 2, none, .mov, [.t 7]⟩])
 (.ret)))⟩
def cf_polygon_Convex : Fn := ⟨1, 42, [.t 2, .t 3], [.v .bool, .v tI], none,
 .seq (.reg false [
  ⟨some 2, none, .mov, [.bool false]⟩,
  ⟨some 3, none, .mov, [.int .i64 0]⟩])
 (.seq (.seq (.reg false [
  ⟨some 7, none, .mov, [.t 0]⟩,
  ⟨some 8, none, .call 1004 (some 13) [.v tI] false, [.t 7]⟩,
  ⟨some 4, none, .mov, [.t 8]⟩])
 (.seq (.reg false [
  ⟨some 9, none, .mov, [.t 4]⟩,
  ⟨some 10, none, .bin .neq tI, [.t 9, .int .i64 0]⟩])
 (.cond (.t 10) (.seq (.reg false [
  ⟨some 11, none, .mov, [.t 4]⟩,
  ⟨some 2, none, .mov, [.bool false]⟩,
  ⟨some 3, none, .mov, [.t 11]⟩])
 (.ret)) (.skip))))
 (.seq (.seq (.reg false [
  ⟨some 12, none, .mov, [.t 0]⟩,
  ⟨some 13, none, .len, [.t 12]⟩,
  ⟨some 14, none, .mov, [.int .i64 0]⟩])
 (.block 0 (.loop 100000 [0, 12, 13, 14] (.seq (.reg false [
  ⟨some 15, none, .bin .lss tI, [.t 14, .t 13]⟩])
 (.seq (.cond (.t 15) (.skip) (.exit 0))
 (.seq (.block 1 (.seq (.reg false [
  ⟨some 16, none, .mov, [.t 14]⟩,
  ⟨some 17, none, .iadr t0, [.t 12, .t 14]⟩,
  ⟨some 18, none, .load t0, [.t 17]⟩,
  ⟨some 6, none, .alloc 6012 t0, []⟩,
  ⟨some 5, none, .mov, [.t 16]⟩,
  ⟨none, none, .store t0, [.t 6, .t 18]⟩])
 (.seq (.reg true [
  ⟨some 19, none, .mov, [.t 0]⟩,
  ⟨some 20, none, .mov, [.t 5]⟩,
  ⟨some 21, none, .mov, [.t 0]⟩,
  ⟨some 22, none, .len, [.t 21]⟩,
  ⟨some 23, none, .bin .add tI, [.t 20, .t 22]⟩,
  ⟨some 24, none, .bin .sub tI, [.t 23, .int .i64 1]⟩,
  ⟨some 25, none, .mov, [.t 0]⟩,
  ⟨some 26, none, .len, [.t 25]⟩,
  ⟨some 27, none, .bin .rem tI, [.t 24, .t 26]⟩,
  ⟨some 28, none, .iadr t0, [.t 19, .t 27]⟩,
  ⟨some 29, none, .load t0, [.t 28]⟩,
  ⟨some 30, none, .load t0, [.t 6]⟩,
  ⟨some 31, none, .mov, [.t 0]⟩,
  ⟨some 32, none, .mov, [.t 5]⟩,
  ⟨some 33, none, .bin .add tI, [.t 32, .int .i64 1]⟩,
  ⟨some 34, none, .mov, [.t 0]⟩,
  ⟨some 35, none, .len, [.t 34]⟩,
  ⟨some 36, none, .bin .rem tI, [.t 33, .t 35]⟩,
  ⟨some 37, none, .iadr t0, [.t 31, .t 36]⟩,
  ⟨some 38, none, .load t0, [.t 37]⟩,
  ⟨some 39, none, .call 7080 (some 14) [.v tI] false, [.t 29, .t 30, .t 38]⟩,
  ⟨some 40, none, .bin .lss tI, [.t 39, .int .i64 0]⟩])
 (.cond (.t 40) (.seq (.reg false [
  ⟨some 2, none, .mov, [.bool false]⟩,
  ⟨some 3, none, .mov, [.int .i64 0]⟩])
 (.ret)) (.skip)))))
 (.reg false [
  ⟨some 41, none, .bin .add tI, [.t 14, .int .i64 1]⟩,
  ⟨some 14, none, .mov, [.t 41]⟩])))))))
 (.seq (.reg false [
  ⟨some 2, none, .mov, [.bool true]⟩,
  ⟨some 3, none, .mov, [.int .i64 0]⟩])
 (.ret))))⟩
def cf_polygon_Where : Fn := ⟨2, 87, [.t 4, .t 5], [.v tI, .v tI], none,
 .seq (.reg false [
  ⟨some 3, none, .box 0 t0, [.t 1]⟩,
  ⟨some 4, none, .mov, [.int .i64 0]⟩,
  ⟨some 5, none, .mov, [.int .i64 0]⟩])
 (.seq (.seq (.reg false [
  ⟨some 11, none, .mov, [.t 0]⟩,
  ⟨some 12, none, .call 1004 (some 13) [.v tI] false, [.t 11]⟩,
  ⟨some 6, none, .mov, [.t 12]⟩])
 (.seq (.reg false [
  ⟨some 13, none, .mov, [.t 6]⟩,
  ⟨some 14, none, .bin .neq tI, [.t 13, .int .i64 0]⟩])
 (.cond (.t 14) (.seq (.reg false [
  ⟨some 15, none, .mov, [.t 6]⟩,
  ⟨some 4, none, .mov, [.int .i64 0]⟩,
  ⟨some 5, none, .mov, [.t 15]⟩])
 (.ret)) (.skip))))
 (.seq (.seq (.reg false [
  ⟨some 16, none, .fadr t0 [false], [.t 3]⟩,
  ⟨some 17, none, .load tI, [.t 16]⟩,
  ⟨some 18, none, .call 4008 (some 20) [.v .bool] false, [.t 17]⟩,
  ⟨some 19, none, .not, [.t 18]⟩,
  ⟨some 20, none, .mov, [.t 19]⟩,
  ⟨some 21, (some (20, false)), .fadr t0 [true], [.t 3]⟩,
  ⟨some 22, (some (20, false)), .load tI, [.t 21]⟩,
  ⟨some 23, (some (20, false)), .call 4028 (some 20) [.v .bool] false, [.t 22]⟩,
  ⟨some 24, (some (20, false)), .not, [.t 23]⟩,
  ⟨some 25, none, .pick, [.t 20, .bool true, .t 24]⟩])
 (.cond (.t 25) (.seq (.reg false [
  ⟨some 4, none, .mov, [.int .i64 (-1)]⟩,
  ⟨some 5, none, .mov, [.int .i64 0]⟩])
 (.ret)) (.skip)))
 (.seq (.reg false [
  ⟨some 7, none, .mov, [.int .i64 0]⟩])
 (.seq (.seq (.reg false [
  ⟨some 26, none, .mov, [.t 0]⟩,
  ⟨some 27, none, .call 7004 (some 22) [.o t1] false, [.t 26]⟩,
  ⟨some 28, none, .len, [.t 27]⟩,
  ⟨some 29, none, .mov, [.int .i64 0]⟩])
 (.block 0 (.loop 100000 [3, 7, 27, 28, 29] (.seq (.reg false [
  ⟨some 30, none, .bin .lss tI, [.t 29, .t 28]⟩])
 (.seq (.cond (.t 30) (.skip) (.exit 0))
 (.seq (.block 1 (.seq (.reg false [
  ⟨some 31, none, .iadr t1, [.t 27, .t 29]⟩,
  ⟨some 32, none, .load t1, [.t 31]⟩,
  ⟨some 9, none, .alloc 9008 t1, []⟩,
  ⟨none, none, .store t1, [.t 9, .t 32]⟩])
 (.seq (.seq (.reg false [
  ⟨some 33, none, .load t1, [.t 9]⟩,
  ⟨some 34, none, .load t0, [.t 3]⟩,
  ⟨some 35, none, .call 10008 (some 23) [.v .bool] false, [.t 33, .t 34]⟩])
 (.cond (.t 35) (.seq (.reg false [
  ⟨some 4, none, .mov, [.int .i64 0]⟩,
  ⟨some 5, none, .mov, [.int .i64 0]⟩])
 (.ret)) (.skip)))
 (.seq (.reg false [
  ⟨some 36, none, .fadr t1 [false], [.t 9]⟩,
  ⟨some 37, none, .load t0, [.t 36]⟩,
  ⟨some 38, none, .fadr t1 [true], [.t 9]⟩,
  ⟨some 39, none, .load t0, [.t 38]⟩,
  ⟨some 40, none, .load t0, [.t 3]⟩,
  ⟨some 41, none, .call 12020 (some 14) [.v tI] false, [.t 37, .t 39, .t 40]⟩,
  ⟨some 10, none, .mov, [.t 41]⟩])
 (.block 2 (.seq (.reg false [
  ⟨some 43, none, .fadr t1 [false], [.t 9]⟩,
  ⟨some 44, none, .fadr t0 [true], [.t 43]⟩,
  ⟨some 45, none, .load tI, [.t 44]⟩,
  ⟨some 46, none, .fadr t0 [true], [.t 3]⟩,
  ⟨some 47, none, .load tI, [.t 46]⟩,
  ⟨some 48, none, .bin .leq tI, [.t 45, .t 47]⟩,
  ⟨some 49, none, .mov, [.t 48]⟩,
  ⟨some 50, (some (49, true)), .fadr t1 [true], [.t 9]⟩,
  ⟨some 51, (some (49, true)), .fadr t0 [true], [.t 50]⟩,
  ⟨some 52, (some (49, true)), .load tI, [.t 51]⟩,
  ⟨some 53, (some (49, true)), .fadr t0 [true], [.t 3]⟩,
  ⟨some 54, (some (49, true)), .load tI, [.t 53]⟩,
  ⟨some 55, (some (49, true)), .bin .gtr tI, [.t 52, .t 54]⟩,
  ⟨some 56, none, .pick, [.t 49, .t 55, .bool false]⟩,
  ⟨some 57, none, .mov, [.t 56]⟩,
  ⟨some 58, (some (57, true)), .mov, [.t 10]⟩,
  ⟨some 59, (some (57, true)), .bin .gtr tI, [.t 58, .int .i64 0]⟩,
  ⟨some 60, none, .pick, [.t 57, .t 59, .bool false]⟩,
  ⟨some 42, none, .mov, [.t 60]⟩])
 (.cond (.t 42) (.reg false [
  ⟨some 61, none, .mov, [.t 7]⟩,
  ⟨some 62, none, .bin .add tI, [.t 61, .int .i64 1]⟩,
  ⟨some 7, none, .mov, [.t 62]⟩]) (.seq (.reg false [
  ⟨some 64, none, .fadr t1 [false], [.t 9]⟩,
  ⟨some 65, none, .fadr t0 [true], [.t 64]⟩,
  ⟨some 66, none, .load tI, [.t 65]⟩,
  ⟨some 67, none, .fadr t0 [true], [.t 3]⟩,
  ⟨some 68, none, .load tI, [.t 67]⟩,
  ⟨some 69, none, .bin .gtr tI, [.t 66, .t 68]⟩,
  ⟨some 70, none, .mov, [.t 69]⟩,
  ⟨some 71, (some (70, true)), .fadr t1 [true], [.t 9]⟩,
  ⟨some 72, (some (70, true)), .fadr t0 [true], [.t 71]⟩,
  ⟨some 73, (some (70, true)), .load tI, [.t 72]⟩,
  ⟨some 74, (some (70, true)), .fadr t0 [true], [.t 3]⟩,
  ⟨some 75, (some (70, true)), .load tI, [.t 74]⟩,
  ⟨some 76, (some (70, true)), .bin .leq tI, [.t 73, .t 75]⟩,
  ⟨some 77, none, .pick, [.t 70, .t 76, .bool false]⟩,
  ⟨some 78, none, .mov, [.t 77]⟩,
  ⟨some 79, (some (78, true)), .mov, [.t 10]⟩,
  ⟨some 80, (some (78, true)), .bin .lss tI, [.t 79, .int .i64 0]⟩,
  ⟨some 81, none, .pick, [.t 78, .t 80, .bool false]⟩,
  ⟨some 63, none, .mov, [.t 81]⟩])
 (.cond (.t 63) (.reg false [
  ⟨some 82, none, .mov, [.t 7]⟩,
  ⟨some 83, none, .bin .sub tI, [.t 82, .int .i64 1]⟩,
  ⟨some 7, none, .mov, [.t 83]⟩]) (.skip))))))))))
 (.reg false [
  ⟨some 84, none, .bin .add tI, [.t 29, .int .i64 1]⟩,
  ⟨some 29, none, .mov, [.t 84]⟩])))))))
 (.seq (.seq (.reg false [
  ⟨some 85, none, .mov, [.t 7]⟩,
  ⟨some 86, none, .bin .eql tI, [.t 85, .int .i64 0]⟩])
 (.cond (.t 86) (.seq (.reg false [
  ⟨some 4, none, .mov, [.int .i64 (-1)]⟩,
  ⟨some 5, none, .mov, [.int .i64 0]⟩])
 (.ret)) (.skip)))
 (.seq (.reg false [
  ⟨some 4, none, .mov, [.int .i64 1]⟩,
  ⟨some 5, none, .mov, [.int .i64 0]⟩])
 (.ret)))))))⟩
def cf_polygon_Box : Fn := ⟨1, 67, [.c 2 t8, .t 3], [.v t8, .v tI], none,
 .seq (.reg false [
  ⟨some 2, none, .alloc 0 t8, []⟩,
  ⟨some 3, none, .mov, [.int .i64 0]⟩])
 (.seq (.seq (.reg false [
  ⟨some 9, none, .mov, [.t 0]⟩,
  ⟨some 10, none, .call 1004 (some 13) [.v tI] false, [.t 9]⟩,
  ⟨some 4, none, .mov, [.t 10]⟩])
 (.seq (.reg false [
  ⟨some 11, none, .mov, [.t 4]⟩,
  ⟨some 12, none, .bin .neq tI, [.t 11, .int .i64 0]⟩])
 (.cond (.t 12) (.seq (.reg false [
  ⟨some 13, none, .build t8 [], []⟩,
  ⟨some 14, none, .mov, [.t 4]⟩,
  ⟨none, none, .store t8, [.t 2, .t 13]⟩,
  ⟨some 3, none, .mov, [.t 14]⟩])
 (.ret)) (.skip))))
 (.seq (.reg true [
  ⟨some 15, none, .mov, [.t 0]⟩,
  ⟨some 16, none, .iadr t0, [.t 15, .int .i64 0]⟩,
  ⟨some 17, none, .load t0, [.t 16]⟩,
  ⟨some 18, none, .mov, [.t 0]⟩,
  ⟨some 19, none, .iadr t0, [.t 18, .int .i64 0]⟩,
  ⟨some 20, none, .loadi t0, [.t 19]⟩,
  ⟨some 5, none, .alloc 4024 t0, []⟩,
  ⟨some 6, none, .alloc 4028 t0, []⟩,
  ⟨none, none, .store t0, [.t 5, .t 17]⟩,
  ⟨none, none, .store t0, [.t 6, .t 20]⟩])
 (.seq (.seq (.reg false [
  ⟨some 21, none, .mov, [.t 0]⟩,
  ⟨some 22, none, .len, [.t 21]⟩,
  ⟨some 23, none, .mov, [.int .i64 0]⟩])
 (.block 0 (.loop 100000 [2, 5, 6, 21, 22, 23] (.seq (.reg false [
  ⟨some 24, none, .bin .lss tI, [.t 23, .t 22]⟩])
 (.seq (.cond (.t 24) (.skip) (.exit 0))
 (.seq (.block 1 (.seq (.reg false [
  ⟨some 25, none, .iadr t0, [.t 21, .t 23]⟩,
  ⟨some 26, none, .load t0, [.t 25]⟩,
  ⟨some 8, none, .alloc 7008 t0, []⟩,
  ⟨none, none, .store t0, [.t 8, .t 26]⟩])
 (.seq (.reg true [
  ⟨some 27, none, .fadr t0 [false], [.t 5]⟩,
  ⟨some 28, none, .load tI, [.t 27]⟩,
  ⟨some 29, none, .fadr t0 [false], [.t 8]⟩,
  ⟨some 30, none, .load tI, [.t 29]⟩,
  ⟨some 31, none, .mm false .i64, [.t 28, .t 30]⟩,
  ⟨some 32, none, .fadr t0 [true], [.t 5]⟩,
  ⟨some 33, none, .load tI, [.t 32]⟩,
  ⟨some 34, none, .fadr t0 [true], [.t 8]⟩,
  ⟨some 35, none, .loadb tI, [.t 34, .t 8]⟩,
  ⟨some 36, none, .mm false .i64, [.t 33, .t 35]⟩,
  ⟨some 37, none, .fadr t0 [false], [.t 5]⟩,
  ⟨none, none, .storeb tI, [.t 37, .t 31, .t 8]⟩,
  ⟨some 38, none, .fadr t0 [true], [.t 5]⟩,
  ⟨none, none, .store tI, [.t 38, .t 36]⟩])
 (.reg true [
  ⟨some 39, none, .fadr t0 [false], [.t 6]⟩,
  ⟨some 40, none, .load tI, [.t 39]⟩,
  ⟨some 41, none, .fadr t0 [false], [.t 8]⟩,
  ⟨some 42, none, .load tI, [.t 41]⟩,
  ⟨some 43, none, .mm true .i64, [.t 40, .t 42]⟩,
  ⟨some 44, none, .fadr t0 [true], [.t 6]⟩,
  ⟨some 45, none, .load tI, [.t 44]⟩,
  ⟨some 46, none, .fadr t0 [true], [.t 8]⟩,
  ⟨some 47, none, .loadb tI, [.t 46, .t 8]⟩,
  ⟨some 48, none, .mm true .i64, [.t 45, .t 47]⟩,
  ⟨some 49, none, .fadr t0 [false], [.t 6]⟩,
  ⟨none, none, .storeb tI, [.t 49, .t 43, .t 8]⟩,
  ⟨some 50, none, .fadr t0 [true], [.t 6]⟩,
  ⟨none, none, .store tI, [.t 50, .t 48]⟩]))))
 (.reg false [
  ⟨some 51, none, .bin .add tI, [.t 23, .int .i64 1]⟩,
  ⟨some 23, none, .mov, [.t 51]⟩])))))))
 (.seq (.reg false [
  ⟨some 52, none, .fadr t0 [false], [.t 5]⟩,
  ⟨some 53, none, .load tI, [.t 52]⟩,
  ⟨some 54, none, .fadr t0 [true], [.t 5]⟩,
  ⟨some 55, none, .load tI, [.t 54]⟩,
  ⟨some 56, none, .fadr t0 [false], [.t 6]⟩,
  ⟨some 57, none, .load tI, [.t 56]⟩,
  ⟨some 58, none, .fadr t0 [false], [.t 5]⟩,
  ⟨some 59, none, .load tI, [.t 58]⟩,
  ⟨some 60, none, .bin .sub tI, [.t 57, .t 59]⟩,
  ⟨some 61, none, .fadr t0 [true], [.t 6]⟩,
  ⟨some 62, none, .load tI, [.t 61]⟩,
  ⟨some 63, none, .fadr t0 [true], [.t 5]⟩,
  ⟨some 64, none, .load tI, [.t 63]⟩,
  ⟨some 65, none, .bin .sub tI, [.t 62, .t 64]⟩,
  ⟨some 66, none, .build t8 [([false], tI), ([true, false], tI), ([true, true, false], tI), ([true, true, true], tI)], [.t 53, .t 55, .t 60, .t 65]⟩,
  ⟨none, none, .store t8, [.t 2, .t 66]⟩,
  ⟨some 3, none, .mov, [.int .i64 0]⟩])
 (.ret)))))⟩
def cf_garmentref11_Check : Fn := ⟨1, 25, [.t 2], [.v tI], none,
 .seq (.reg false [
  ⟨some 2, none, .mov, [.int .i64 0]⟩])
 (.seq (.seq (.reg false [
  ⟨some 4, none, .mov, [.t 0]⟩,
  ⟨some 5, none, .len, [.t 4]⟩,
  ⟨some 6, none, .bin .gtr tI, [.t 5, .int .i64 40]⟩])
 (.cond (.t 6) (.seq (.reg false [
  ⟨some 2, none, .mov, [.int .i64 5]⟩])
 (.ret)) (.skip)))
 (.seq (.seq (.reg false [
  ⟨some 7, none, .mov, [.t 0]⟩,
  ⟨some 8, none, .len, [.t 7]⟩,
  ⟨some 9, none, .bin .lss tI, [.t 8, .int .i64 3]⟩])
 (.cond (.t 9) (.seq (.reg false [
  ⟨some 2, none, .mov, [.int .i64 11]⟩])
 (.ret)) (.skip)))
 (.seq (.seq (.reg false [
  ⟨some 3, none, .mov, [.int .i64 0]⟩])
 (.block 0 (.loop 100000 [0, 3] (.seq (.seq (.reg false [
  ⟨some 10, none, .mov, [.t 3]⟩,
  ⟨some 11, none, .mov, [.t 0]⟩,
  ⟨some 12, none, .len, [.t 11]⟩,
  ⟨some 13, none, .bin .lss tI, [.t 10, .t 12]⟩])
 (.cond (.t 13) (.skip) (.exit 0)))
 (.seq (.block 1 (.seq (.reg false [
  ⟨some 16, none, .mov, [.t 0]⟩,
  ⟨some 17, none, .mov, [.t 3]⟩,
  ⟨some 18, none, .iadr t0, [.t 16, .t 17]⟩,
  ⟨some 19, none, .load t0, [.t 18]⟩,
  ⟨some 20, none, .call 8016 (some 68) [.v .bool] false, [.t 19, .int .i64 1048576]⟩,
  ⟨some 21, none, .not, [.t 20]⟩])
 (.cond (.t 21) (.seq (.reg false [
  ⟨some 2, none, .mov, [.int .i64 3]⟩])
 (.ret)) (.skip))))
 (.reg false [
  ⟨some 14, none, .mov, [.t 3]⟩,
  ⟨some 15, none, .bin .add tI, [.t 14, .int .i64 1]⟩,
  ⟨some 3, none, .mov, [.t 15]⟩]))))))
 (.seq (.seq (.reg false [
  ⟨some 22, none, .mov, [.t 0]⟩,
  ⟨some 23, none, .call 10004 (some 69) [.v .bool] false, [.t 22]⟩,
  ⟨some 24, none, .not, [.t 23]⟩])
 (.cond (.t 24) (.seq (.reg false [
  ⟨some 2, none, .mov, [.int .i64 11]⟩])
 (.ret)) (.skip)))
 (.seq (.reg false [
  ⟨some 2, none, .mov, [.int .i64 0]⟩])
 (.ret))))))⟩
def cf_garmentref11_Within : Fn := ⟨2, 29, [.t 4], [.v .bool], none,
 .seq (.reg false [
  ⟨some 2, none, .box 0 t0, [.t 0]⟩,
  ⟨some 4, none, .mov, [.bool false]⟩])
 (.seq (.reg false [
  ⟨some 5, none, .fadr t0 [false], [.t 2]⟩,
  ⟨some 6, none, .load tI, [.t 5]⟩,
  ⟨some 7, none, .mov, [.t 1]⟩,
  ⟨some 8, none, .neg .i64, [.t 7]⟩,
  ⟨some 9, none, .bin .geq tI, [.t 6, .t 8]⟩,
  ⟨some 10, none, .mov, [.t 9]⟩,
  ⟨some 11, (some (10, true)), .fadr t0 [false], [.t 2]⟩,
  ⟨some 12, (some (10, true)), .load tI, [.t 11]⟩,
  ⟨some 13, (some (10, true)), .mov, [.t 1]⟩,
  ⟨some 14, (some (10, true)), .bin .leq tI, [.t 12, .t 13]⟩,
  ⟨some 15, none, .pick, [.t 10, .t 14, .bool false]⟩,
  ⟨some 16, none, .mov, [.t 15]⟩,
  ⟨some 17, (some (16, true)), .fadr t0 [true], [.t 2]⟩,
  ⟨some 18, (some (16, true)), .load tI, [.t 17]⟩,
  ⟨some 19, (some (16, true)), .mov, [.t 1]⟩,
  ⟨some 20, (some (16, true)), .neg .i64, [.t 19]⟩,
  ⟨some 21, (some (16, true)), .bin .geq tI, [.t 18, .t 20]⟩,
  ⟨some 22, none, .pick, [.t 16, .t 21, .bool false]⟩,
  ⟨some 23, none, .mov, [.t 22]⟩,
  ⟨some 24, (some (23, true)), .fadr t0 [true], [.t 2]⟩,
  ⟨some 25, (some (23, true)), .load tI, [.t 24]⟩,
  ⟨some 26, (some (23, true)), .mov, [.t 1]⟩,
  ⟨some 27, (some (23, true)), .bin .leq tI, [.t 25, .t 26]⟩,
  ⟨some 28, none, .pick, [.t 23, .t 27, .bool false]⟩,
  ⟨some 4, none, .mov, [.t 28]⟩])
 (.ret))⟩
def cf_garmentref11_simple : Fn := ⟨1, 78, [.t 2], [.v .bool], none,
 .seq (.reg false [
  ⟨some 2, none, .mov, [.bool false]⟩])
 (.seq (.reg false [
  ⟨some 9, none, .mov, [.t 0]⟩,
  ⟨some 10, none, .len, [.t 9]⟩,
  ⟨some 3, none, .mov, [.t 10]⟩])
 (.seq (.seq (.reg false [
  ⟨some 4, none, .mov, [.int .i64 0]⟩])
 (.block 0 (.loop 100000 [0, 3, 4] (.seq (.seq (.reg false [
  ⟨some 11, none, .mov, [.t 4]⟩,
  ⟨some 12, none, .mov, [.t 3]⟩,
  ⟨some 13, none, .bin .lss tI, [.t 11, .t 12]⟩])
 (.cond (.t 13) (.skip) (.exit 0)))
 (.seq (.block 1 (.seq (.reg true [
  ⟨some 16, none, .mov, [.t 0]⟩,
  ⟨some 17, none, .mov, [.t 4]⟩,
  ⟨some 18, none, .iadr t0, [.t 16, .t 17]⟩,
  ⟨some 19, none, .load t0, [.t 18]⟩,
  ⟨some 20, none, .mov, [.t 0]⟩,
  ⟨some 21, none, .mov, [.t 4]⟩,
  ⟨some 22, none, .bin .add tI, [.t 21, .int .i64 1]⟩,
  ⟨some 23, none, .mov, [.t 3]⟩,
  ⟨some 24, none, .bin .rem tI, [.t 22, .t 23]⟩,
  ⟨some 25, none, .iadr t0, [.t 20, .t 24]⟩,
  ⟨some 26, none, .loadi t0, [.t 25]⟩,
  ⟨some 5, none, .alloc 5044 t0, []⟩,
  ⟨some 6, none, .alloc 5048 t0, []⟩,
  ⟨none, none, .store t0, [.t 5, .t 19]⟩,
  ⟨none, none, .store t0, [.t 6, .t 26]⟩])
 (.seq (.reg false [
  ⟨some 27, none, .mov, [.t 0]⟩,
  ⟨some 28, none, .mov, [.t 4]⟩,
  ⟨some 29, none, .bin .add tI, [.t 28, .int .i64 2]⟩,
  ⟨some 30, none, .mov, [.t 3]⟩,
  ⟨some 31, none, .bin .rem tI, [.t 29, .t 30]⟩,
  ⟨some 32, none, .iadr t0, [.t 27, .t 31]⟩,
  ⟨some 33, none, .load t0, [.t 32]⟩,
  ⟨some 7, none, .alloc 6028 t0, []⟩,
  ⟨none, none, .store t0, [.t 7, .t 33]⟩])
 (.seq (.seq (.reg false [
  ⟨some 34, none, .load t0, [.t 5]⟩,
  ⟨some 35, none, .load t0, [.t 6]⟩,
  ⟨some 36, none, .bin .eql t0, [.t 34, .t 35]⟩,
  ⟨some 37, none, .mov, [.t 36]⟩,
  ⟨some 38, (some (37, false)), .load t0, [.t 5]⟩,
  ⟨some 39, (some (37, false)), .load t0, [.t 6]⟩,
  ⟨some 40, (some (37, false)), .load t0, [.t 7]⟩,
  ⟨some 41, (some (37, false)), .call 7028 (some 70) [.v .bool] false, [.t 38, .t 39, .t 40]⟩,
  ⟨some 42, none, .pick, [.t 37, .bool true, .t 41]⟩,
  ⟨some 43, none, .mov, [.t 42]⟩,
  ⟨some 44, (some (43, false)), .load t0, [.t 6]⟩,
  ⟨some 45, (some (43, false)), .load t0, [.t 7]⟩,
  ⟨some 46, (some (43, false)), .load t0, [.t 5]⟩,
  ⟨some 47, (some (43, false)), .call 7052 (some 70) [.v .bool] false, [.t 44, .t 45, .t 46]⟩,
  ⟨some 48, none, .pick, [.t 43, .bool true, .t 47]⟩])
 (.cond (.t 48) (.seq (.reg false [
  ⟨some 2, none, .mov, [.bool false]⟩])
 (.ret)) (.skip)))
 (.seq (.reg false [
  ⟨some 49, none, .mov, [.t 4]⟩,
  ⟨some 50, none, .bin .add tI, [.t 49, .int .i64 2]⟩,
  ⟨some 8, none, .mov, [.t 50]⟩])
 (.block 2 (.loop 200000 [0, 3, 4, 5, 6, 8] (.seq (.seq (.reg false [
  ⟨some 51, none, .mov, [.t 8]⟩,
  ⟨some 52, none, .mov, [.t 3]⟩,
  ⟨some 53, none, .bin .lss tI, [.t 51, .t 52]⟩])
 (.cond (.t 53) (.skip) (.exit 2)))
 (.seq (.block 3 (.seq (.reg true [
  ⟨some 56, none, .mov, [.t 8]⟩,
  ⟨some 57, none, .bin .add tI, [.t 56, .int .i64 1]⟩,
  ⟨some 58, none, .mov, [.t 3]⟩,
  ⟨some 59, none, .bin .rem tI, [.t 57, .t 58]⟩,
  ⟨some 60, none, .mov, [.t 4]⟩,
  ⟨some 61, none, .bin .neq tI, [.t 59, .t 60]⟩,
  ⟨some 62, none, .mov, [.t 61]⟩,
  ⟨some 63, (some (62, true)), .load t0, [.t 5]⟩,
  ⟨some 64, (some (62, true)), .load t0, [.t 6]⟩,
  ⟨some 65, (some (62, true)), .mov, [.t 0]⟩,
  ⟨some 66, (some (62, true)), .mov, [.t 8]⟩,
  ⟨some 67, (some (62, true)), .iadr t0, [.t 65, .t 66]⟩,
  ⟨some 68, (some (62, true)), .load t0, [.t 67]⟩,
  ⟨some 69, (some (62, true)), .mov, [.t 0]⟩,
  ⟨some 70, (some (62, true)), .mov, [.t 8]⟩,
  ⟨some 71, (some (62, true)), .bin .add tI, [.t 70, .int .i64 1]⟩,
  ⟨some 72, (some (62, true)), .mov, [.t 3]⟩,
  ⟨some 73, (some (62, true)), .bin .rem tI, [.t 71, .t 72]⟩,
  ⟨some 74, (some (62, true)), .iadr t0, [.t 69, .t 73]⟩,
  ⟨some 75, (some (62, true)), .load t0, [.t 74]⟩,
  ⟨some 76, (some (62, true)), .call 12080 (some 71) [.v .bool] false, [.t 63, .t 64, .t 68, .t 75]⟩,
  ⟨some 77, none, .pick, [.t 62, .t 76, .bool false]⟩])
 (.cond (.t 77) (.seq (.reg false [
  ⟨some 2, none, .mov, [.bool false]⟩])
 (.ret)) (.skip))))
 (.reg false [
  ⟨some 54, none, .mov, [.t 8]⟩,
  ⟨some 55, none, .bin .add tI, [.t 54, .int .i64 1]⟩,
  ⟨some 8, none, .mov, [.t 55]⟩]))))))))))
 (.reg false [
  ⟨some 14, none, .mov, [.t 4]⟩,
  ⟨some 15, none, .bin .add tI, [.t 14, .int .i64 1]⟩,
  ⟨some 4, none, .mov, [.t 15]⟩]))))))
 (.seq (.reg false [
  ⟨some 2, none, .mov, [.bool true]⟩])
 (.ret))))⟩
def cf_garmentref11_Between : Fn := ⟨3, 52, [.t 6], [.v .bool], none,
 .seq (.reg false [
  ⟨some 3, none, .box 0 t0, [.t 0]⟩,
  ⟨some 4, none, .box 4 t0, [.t 1]⟩,
  ⟨some 5, none, .box 8 t0, [.t 2]⟩,
  ⟨some 6, none, .mov, [.bool false]⟩])
 (.seq (.reg false [
  ⟨some 7, none, .load t0, [.t 3]⟩,
  ⟨some 8, none, .load t0, [.t 4]⟩,
  ⟨some 9, none, .load t0, [.t 5]⟩,
  ⟨some 10, none, .call 1012 (some 33) [.v tI] false, [.t 7, .t 8, .t 9]⟩,
  ⟨some 11, none, .bin .eql tI, [.t 10, .int .i64 0]⟩,
  ⟨some 12, none, .mov, [.t 11]⟩,
  ⟨some 13, (some (12, true)), .fadr t0 [false], [.t 3]⟩,
  ⟨some 14, (some (12, true)), .load tI, [.t 13]⟩,
  ⟨some 15, (some (12, true)), .fadr t0 [false], [.t 4]⟩,
  ⟨some 16, (some (12, true)), .load tI, [.t 15]⟩,
  ⟨some 17, (some (12, true)), .mm false .i64, [.t 14, .t 16]⟩,
  ⟨some 18, (some (12, true)), .fadr t0 [false], [.t 5]⟩,
  ⟨some 19, (some (12, true)), .load tI, [.t 18]⟩,
  ⟨some 20, (some (12, true)), .bin .leq tI, [.t 17, .t 19]⟩,
  ⟨some 21, none, .pick, [.t 12, .t 20, .bool false]⟩,
  ⟨some 22, none, .mov, [.t 21]⟩,
  ⟨some 23, (some (22, true)), .fadr t0 [false], [.t 5]⟩,
  ⟨some 24, (some (22, true)), .load tI, [.t 23]⟩,
  ⟨some 25, (some (22, true)), .fadr t0 [false], [.t 3]⟩,
  ⟨some 26, (some (22, true)), .load tI, [.t 25]⟩,
  ⟨some 27, (some (22, true)), .fadr t0 [false], [.t 4]⟩,
  ⟨some 28, (some (22, true)), .load tI, [.t 27]⟩,
  ⟨some 29, (some (22, true)), .mm true .i64, [.t 26, .t 28]⟩,
  ⟨some 30, (some (22, true)), .bin .leq tI, [.t 24, .t 29]⟩,
  ⟨some 31, none, .pick, [.t 22, .t 30, .bool false]⟩,
  ⟨some 32, none, .mov, [.t 31]⟩,
  ⟨some 33, (some (32, true)), .fadr t0 [true], [.t 3]⟩,
  ⟨some 34, (some (32, true)), .load tI, [.t 33]⟩,
  ⟨some 35, (some (32, true)), .fadr t0 [true], [.t 4]⟩,
  ⟨some 36, (some (32, true)), .load tI, [.t 35]⟩,
  ⟨some 37, (some (32, true)), .mm false .i64, [.t 34, .t 36]⟩,
  ⟨some 38, (some (32, true)), .fadr t0 [true], [.t 5]⟩,
  ⟨some 39, (some (32, true)), .load tI, [.t 38]⟩,
  ⟨some 40, (some (32, true)), .bin .leq tI, [.t 37, .t 39]⟩,
  ⟨some 41, none, .pick, [.t 32, .t 40, .bool false]⟩,
  ⟨some 42, none, .mov, [.t 41]⟩,
  ⟨some 43, (some (42, true)), .fadr t0 [true], [.t 5]⟩,
  ⟨some 44, (some (42, true)), .load tI, [.t 43]⟩,
  ⟨some 45, (some (42, true)), .fadr t0 [true], [.t 3]⟩,
  ⟨some 46, (some (42, true)), .load tI, [.t 45]⟩,
  ⟨some 47, (some (42, true)), .fadr t0 [true], [.t 4]⟩,
  ⟨some 48, (some (42, true)), .load tI, [.t 47]⟩,
  ⟨some 49, (some (42, true)), .mm true .i64, [.t 46, .t 48]⟩,
  ⟨some 50, (some (42, true)), .bin .leq tI, [.t 44, .t 49]⟩,
  ⟨some 51, none, .pick, [.t 42, .t 50, .bool false]⟩,
  ⟨some 6, none, .mov, [.t 51]⟩])
 (.ret))⟩
def cf_garmentref11_meet : Fn := ⟨4, 57, [.t 8], [.v .bool], none,
 .seq (.reg false [
  ⟨some 4, none, .box 0 t0, [.t 0]⟩,
  ⟨some 5, none, .box 4 t0, [.t 1]⟩,
  ⟨some 6, none, .box 8 t0, [.t 2]⟩,
  ⟨some 7, none, .box 12 t0, [.t 3]⟩,
  ⟨some 8, none, .mov, [.bool false]⟩])
 (.seq (.seq (.reg false [
  ⟨some 9, none, .load t0, [.t 4]⟩,
  ⟨some 10, none, .load t0, [.t 5]⟩,
  ⟨some 11, none, .load t0, [.t 6]⟩,
  ⟨some 12, none, .call 1012 (some 70) [.v .bool] false, [.t 9, .t 10, .t 11]⟩,
  ⟨some 13, none, .mov, [.t 12]⟩,
  ⟨some 14, (some (13, false)), .load t0, [.t 4]⟩,
  ⟨some 15, (some (13, false)), .load t0, [.t 5]⟩,
  ⟨some 16, (some (13, false)), .load t0, [.t 7]⟩,
  ⟨some 17, (some (13, false)), .call 1032 (some 70) [.v .bool] false, [.t 14, .t 15, .t 16]⟩,
  ⟨some 18, none, .pick, [.t 13, .bool true, .t 17]⟩,
  ⟨some 19, none, .mov, [.t 18]⟩,
  ⟨some 20, (some (19, false)), .load t0, [.t 6]⟩,
  ⟨some 21, (some (19, false)), .load t0, [.t 7]⟩,
  ⟨some 22, (some (19, false)), .load t0, [.t 4]⟩,
  ⟨some 23, (some (19, false)), .call 1056 (some 70) [.v .bool] false, [.t 20, .t 21, .t 22]⟩,
  ⟨some 24, none, .pick, [.t 19, .bool true, .t 23]⟩,
  ⟨some 25, none, .mov, [.t 24]⟩,
  ⟨some 26, (some (25, false)), .load t0, [.t 6]⟩,
  ⟨some 27, (some (25, false)), .load t0, [.t 7]⟩,
  ⟨some 28, (some (25, false)), .load t0, [.t 5]⟩,
  ⟨some 29, (some (25, false)), .call 1080 (some 70) [.v .bool] false, [.t 26, .t 27, .t 28]⟩,
  ⟨some 30, none, .pick, [.t 25, .bool true, .t 29]⟩])
 (.cond (.t 30) (.seq (.reg false [
  ⟨some 8, none, .mov, [.bool true]⟩])
 (.ret)) (.skip)))
 (.seq (.reg true [
  ⟨some 31, none, .load t0, [.t 4]⟩,
  ⟨some 32, none, .load t0, [.t 5]⟩,
  ⟨some 33, none, .load t0, [.t 6]⟩,
  ⟨some 34, none, .call 3012 (some 33) [.v tI] false, [.t 31, .t 32, .t 33]⟩,
  ⟨some 35, none, .call 3016 (some 72) [.v tI] false, [.t 34]⟩,
  ⟨some 36, none, .load t0, [.t 4]⟩,
  ⟨some 37, none, .load t0, [.t 5]⟩,
  ⟨some 38, none, .load t0, [.t 7]⟩,
  ⟨some 39, none, .call 3032 (some 33) [.v tI] false, [.t 36, .t 37, .t 38]⟩,
  ⟨some 40, none, .call 3036 (some 72) [.v tI] false, [.t 39]⟩,
  ⟨some 41, none, .bin .mul tI, [.t 35, .t 40]⟩,
  ⟨some 42, none, .bin .lss tI, [.t 41, .int .i64 0]⟩,
  ⟨some 43, none, .mov, [.t 42]⟩,
  ⟨some 44, (some (43, true)), .load t0, [.t 6]⟩,
  ⟨some 45, (some (43, true)), .load t0, [.t 7]⟩,
  ⟨some 46, (some (43, true)), .load t0, [.t 4]⟩,
  ⟨some 47, (some (43, true)), .call 3064 (some 33) [.v tI] false, [.t 44, .t 45, .t 46]⟩,
  ⟨some 48, (some (43, true)), .call 3068 (some 72) [.v tI] false, [.t 47]⟩,
  ⟨some 49, (some (43, true)), .load t0, [.t 6]⟩,
  ⟨some 50, (some (43, true)), .load t0, [.t 7]⟩,
  ⟨some 51, (some (43, true)), .load t0, [.t 5]⟩,
  ⟨some 52, (some (43, true)), .call 3084 (some 33) [.v tI] false, [.t 49, .t 50, .t 51]⟩,
  ⟨some 53, (some (43, true)), .call 3088 (some 72) [.v tI] false, [.t 52]⟩,
  ⟨some 54, (some (43, true)), .bin .mul tI, [.t 48, .t 53]⟩,
  ⟨some 55, (some (43, true)), .bin .lss tI, [.t 54, .int .i64 0]⟩,
  ⟨some 56, none, .pick, [.t 43, .t 55, .bool false]⟩,
  ⟨some 8, none, .mov, [.t 56]⟩])
 (.ret)))⟩
def cf_garmentref11_sign : Fn := ⟨1, 9, [.t 2], [.v tI], none,
 .seq (.reg false [
  ⟨some 2, none, .mov, [.int .i64 0]⟩])
 (.seq (.block 0 (.seq (.reg false [
  ⟨some 4, none, .mov, [.t 0]⟩,
  ⟨some 5, none, .bin .gtr tI, [.t 4, .int .i64 0]⟩,
  ⟨some 3, none, .mov, [.t 5]⟩])
 (.cond (.t 3) (.seq (.reg false [
  ⟨some 2, none, .mov, [.int .i64 1]⟩])
 (.ret)) (.seq (.reg false [
  ⟨some 7, none, .mov, [.t 0]⟩,
  ⟨some 8, none, .bin .lss tI, [.t 7, .int .i64 0]⟩,
  ⟨some 6, none, .mov, [.t 8]⟩])
 (.cond (.t 6) (.seq (.reg false [
  ⟨some 2, none, .mov, [.int .i64 (-1)]⟩])
 (.ret)) (.skip))))))
 (.seq (.reg false [
  ⟨some 2, none, .mov, [.int .i64 0]⟩])
 (.ret)))⟩
def cf_garmentlaw11_few : Fn := ⟨1, 6, [.t 2], [.v .bool], none,
 .seq (.reg false [
  ⟨some 2, none, .mov, [.bool false]⟩])
 (.seq (.reg false [
  ⟨some 3, none, .mov, [.t 0]⟩,
  ⟨some 4, none, .len, [.t 3]⟩,
  ⟨some 5, none, .bin .leq tI, [.t 4, .int .i64 50]⟩,
  ⟨some 2, none, .mov, [.t 5]⟩])
 (.ret))⟩
def cf_garmentlaw11_awake : Fn := ⟨0, 159, [.t 0], [.v .bool], none,
 .seq (.reg false [
  ⟨some 0, none, .mov, [.bool false]⟩])
 (.seq (.reg false [
  ⟨some 19, none, .build t0 [], []⟩,
  ⟨some 20, none, .build t0 [([false], tI)], [.int .i64 4]⟩,
  ⟨some 21, none, .build t0 [([false], tI), ([true], tI)], [.int .i64 4, .int .i64 4]⟩,
  ⟨some 22, none, .build t0 [([true], tI)], [.int .i64 4]⟩,
  ⟨some 23, none, .bsl 1016 t0 4 [0, 1, 2, 3], [.t 19, .t 20, .t 21, .t 22]⟩,
  ⟨some 1, none, .mov, [.t 23]⟩])
 (.seq (.reg false [
  ⟨some 24, none, .build t0 [([false], tI), ([true], tI)], [.int .i64 4, .int .i64 4]⟩,
  ⟨some 25, none, .build t0 [([false], tI)], [.int .i64 4]⟩,
  ⟨some 26, none, .build t0 [([false], tI)], [.int .i64 2]⟩,
  ⟨some 27, none, .build t0 [], []⟩,
  ⟨some 28, none, .build t0 [([true], tI)], [.int .i64 4]⟩,
  ⟨some 29, none, .bsl 2020 t0 5 [0, 1, 2, 3, 4], [.t 24, .t 25, .t 26, .t 27, .t 28]⟩,
  ⟨some 2, none, .mov, [.t 29]⟩])
 (.seq (.reg false [
  ⟨some 30, none, .build t0 [], []⟩,
  ⟨some 31, none, .build t0 [([false], tI)], [.int .i64 4]⟩,
  ⟨some 32, none, .build t0 [([false], tI), ([true], tI)], [.int .i64 4, .int .i64 2]⟩,
  ⟨some 33, none, .build t0 [([false], tI), ([true], tI)], [.int .i64 2, .int .i64 2]⟩,
  ⟨some 34, none, .build t0 [([false], tI), ([true], tI)], [.int .i64 2, .int .i64 4]⟩,
  ⟨some 35, none, .build t0 [([true], tI)], [.int .i64 4]⟩,
  ⟨some 36, none, .bsl 3024 t0 6 [0, 1, 2, 3, 4, 5], [.t 30, .t 31, .t 32, .t 33, .t 34, .t 35]⟩,
  ⟨some 3, none, .mov, [.t 36]⟩])
 (.seq (.reg false [
  ⟨some 38, none, .mov, [.t 2]⟩,
  ⟨some 39, none, .call 4004 (some 8) [.v (.sl t0), .v tI] false, [.t 38]⟩,
  ⟨some 37, none, .mov, [.t 39]⟩,
  ⟨some 40, none, .ext 0, [.t 37]⟩,
  ⟨some 41, none, .ext 1, [.t 37]⟩,
  ⟨some 4, none, .mov, [.t 40]⟩,
  ⟨some 5, none, .mov, [.t 41]⟩])
 (.seq (.reg false [
  ⟨some 43, none, .mov, [.t 1]⟩,
  ⟨some 44, none, .build t0 [([false], tI), ([true], tI)], [.int .i64 1, .int .i64 1]⟩,
  ⟨some 45, none, .call 5008 (some 43) [.v tI, .v tI] false, [.t 43, .t 44]⟩,
  ⟨some 42, none, .mov, [.t 45]⟩,
  ⟨some 46, none, .ext 0, [.t 42]⟩,
  ⟨some 47, none, .ext 1, [.t 42]⟩,
  ⟨some 6, none, .mov, [.t 46]⟩,
  ⟨some 7, none, .mov, [.t 47]⟩])
 (.seq (.reg false [
  ⟨some 49, none, .mov, [.t 1]⟩,
  ⟨some 50, none, .build t0 [([false], tI), ([true], tI)], [.int .i64 4, .int .i64 2]⟩,
  ⟨some 51, none, .call 6008 (some 43) [.v tI, .v tI] false, [.t 49, .t 50]⟩,
  ⟨some 48, none, .mov, [.t 51]⟩,
  ⟨some 52, none, .ext 0, [.t 48]⟩,
  ⟨some 53, none, .ext 1, [.t 48]⟩,
  ⟨some 8, none, .mov, [.t 52]⟩,
  ⟨some 9, none, .mov, [.t 53]⟩])
 (.seq (.reg false [
  ⟨some 55, none, .mov, [.t 3]⟩,
  ⟨some 56, none, .build t0 [([false], tI), ([true], tI)], [.int .i64 3, .int .i64 3]⟩,
  ⟨some 57, none, .call 7008 (some 43) [.v tI, .v tI] false, [.t 55, .t 56]⟩,
  ⟨some 54, none, .mov, [.t 57]⟩,
  ⟨some 58, none, .ext 0, [.t 54]⟩,
  ⟨some 59, none, .ext 1, [.t 54]⟩,
  ⟨some 10, none, .mov, [.t 58]⟩,
  ⟨some 11, none, .mov, [.t 59]⟩])
 (.seq (.reg false [
  ⟨some 61, none, .mov, [.t 3]⟩,
  ⟨some 62, none, .call 8004 (some 61) [.v t8, .v tI] false, [.t 61]⟩,
  ⟨some 60, none, .mov, [.t 62]⟩,
  ⟨some 63, none, .ext 0, [.t 60]⟩,
  ⟨some 64, none, .ext 1, [.t 60]⟩,
  ⟨some 12, none, .alloc 8020 t8, []⟩,
  ⟨none, none, .store t8, [.t 12, .t 63]⟩,
  ⟨some 13, none, .mov, [.t 64]⟩])
 (.seq (.reg false [
  ⟨some 66, none, .mov, [.t 1]⟩,
  ⟨some 67, none, .call 9004 (some 41) [.v .bool, .v tI] false, [.t 66]⟩,
  ⟨some 65, none, .mov, [.t 67]⟩,
  ⟨some 68, none, .ext 0, [.t 65]⟩,
  ⟨some 69, none, .ext 1, [.t 65]⟩,
  ⟨some 14, none, .mov, [.t 68]⟩,
  ⟨some 15, none, .mov, [.t 69]⟩])
 (.seq (.reg false [
  ⟨some 71, none, .mov, [.t 3]⟩,
  ⟨some 72, none, .call 10004 (some 41) [.v .bool, .v tI] false, [.t 71]⟩,
  ⟨some 70, none, .mov, [.t 72]⟩,
  ⟨some 73, none, .ext 0, [.t 70]⟩,
  ⟨some 74, none, .ext 1, [.t 70]⟩,
  ⟨some 16, none, .mov, [.t 73]⟩,
  ⟨some 17, none, .mov, [.t 74]⟩])
 (.seq (.seq (.reg false [
  ⟨some 75, none, .mov, [.t 5]⟩,
  ⟨some 76, none, .bin .neq tI, [.t 75, .int .i64 0]⟩,
  ⟨some 77, none, .mov, [.t 76]⟩,
  ⟨some 78, (some (77, false)), .mov, [.t 7]⟩,
  ⟨some 79, (some (77, false)), .bin .neq tI, [.t 78, .int .i64 0]⟩,
  ⟨some 80, none, .pick, [.t 77, .bool true, .t 79]⟩,
  ⟨some 81, none, .mov, [.t 80]⟩,
  ⟨some 82, (some (81, false)), .mov, [.t 9]⟩,
  ⟨some 83, (some (81, false)), .bin .neq tI, [.t 82, .int .i64 0]⟩,
  ⟨some 84, none, .pick, [.t 81, .bool true, .t 83]⟩,
  ⟨some 85, none, .mov, [.t 84]⟩,
  ⟨some 86, (some (85, false)), .mov, [.t 11]⟩,
  ⟨some 87, (some (85, false)), .bin .neq tI, [.t 86, .int .i64 0]⟩,
  ⟨some 88, none, .pick, [.t 85, .bool true, .t 87]⟩,
  ⟨some 89, none, .mov, [.t 88]⟩,
  ⟨some 90, (some (89, false)), .mov, [.t 13]⟩,
  ⟨some 91, (some (89, false)), .bin .neq tI, [.t 90, .int .i64 0]⟩,
  ⟨some 92, none, .pick, [.t 89, .bool true, .t 91]⟩,
  ⟨some 93, none, .mov, [.t 92]⟩,
  ⟨some 94, (some (93, false)), .mov, [.t 15]⟩,
  ⟨some 95, (some (93, false)), .bin .neq tI, [.t 94, .int .i64 0]⟩,
  ⟨some 96, none, .pick, [.t 93, .bool true, .t 95]⟩,
  ⟨some 97, none, .mov, [.t 96]⟩,
  ⟨some 98, (some (97, false)), .mov, [.t 17]⟩,
  ⟨some 99, (some (97, false)), .bin .neq tI, [.t 98, .int .i64 0]⟩,
  ⟨some 100, none, .pick, [.t 97, .bool true, .t 99]⟩,
  ⟨some 101, none, .mov, [.t 100]⟩,
  ⟨some 102, (some (101, false)), .mov, [.t 6]⟩,
  ⟨some 103, (some (101, false)), .bin .neq tI, [.t 102, .int .i64 1]⟩,
  ⟨some 104, none, .pick, [.t 101, .bool true, .t 103]⟩,
  ⟨some 105, none, .mov, [.t 104]⟩,
  ⟨some 106, (some (105, false)), .mov, [.t 8]⟩,
  ⟨some 107, (some (105, false)), .bin .neq tI, [.t 106, .int .i64 0]⟩,
  ⟨some 108, none, .pick, [.t 105, .bool true, .t 107]⟩,
  ⟨some 109, none, .mov, [.t 108]⟩,
  ⟨some 110, (some (109, false)), .mov, [.t 10]⟩,
  ⟨some 111, (some (109, false)), .bin .neq tI, [.t 110, .int .i64 (-1)]⟩,
  ⟨some 112, none, .pick, [.t 109, .bool true, .t 111]⟩,
  ⟨some 113, none, .mov, [.t 112]⟩,
  ⟨some 114, (some (113, false)), .mov, [.t 14]⟩,
  ⟨some 115, (some (113, false)), .not, [.t 114]⟩,
  ⟨some 116, none, .pick, [.t 113, .bool true, .t 115]⟩,
  ⟨some 117, none, .mov, [.t 116]⟩,
  ⟨some 118, (some (117, false)), .mov, [.t 16]⟩,
  ⟨some 119, none, .pick, [.t 117, .bool true, .t 118]⟩])
 (.cond (.t 119) (.seq (.reg false [
  ⟨some 0, none, .mov, [.bool false]⟩])
 (.ret)) (.skip)))
 (.seq (.reg false [
  ⟨some 120, none, .build t0 [], []⟩,
  ⟨some 121, none, .build t0 [([false], tI), ([true], tI)], [.int .i64 4, .int .i64 4]⟩,
  ⟨some 122, none, .build t0 [([false], tI)], [.int .i64 4]⟩,
  ⟨some 123, none, .build t0 [([true], tI)], [.int .i64 4]⟩,
  ⟨some 124, none, .bsl 13016 t0 4 [0, 1, 2, 3], [.t 120, .t 121, .t 122, .t 123]⟩,
  ⟨some 18, none, .mov, [.t 124]⟩])
 (.seq (.reg false [
  ⟨some 125, none, .mov, [.t 4]⟩,
  ⟨some 126, none, .mov, [.t 1]⟩,
  ⟨some 127, none, .call 14008 (some 7) [.v .bool] false, [.t 125, .t 126]⟩,
  ⟨some 128, none, .mov, [.t 127]⟩,
  ⟨some 129, (some (128, true)), .load t8, [.t 12]⟩,
  ⟨some 130, (some (128, true)), .build t8 [([true, true, false], tI), ([true, true, true], tI)], [.int .i64 4, .int .i64 4]⟩,
  ⟨some 131, (some (128, true)), .bin .eql t8, [.t 129, .t 130]⟩,
  ⟨some 132, none, .pick, [.t 128, .t 131, .bool false]⟩,
  ⟨some 133, none, .mov, [.t 132]⟩,
  ⟨some 134, (some (133, true)), .mov, [.t 1]⟩,
  ⟨some 135, (some (133, true)), .call 14040 (some 36) [.v tI] false, [.t 134]⟩,
  ⟨some 136, (some (133, true)), .bin .eql tI, [.t 135, .int .i64 32]⟩,
  ⟨some 137, none, .pick, [.t 133, .t 136, .bool false]⟩,
  ⟨some 138, none, .mov, [.t 137]⟩,
  ⟨some 139, (some (138, true)), .mov, [.t 2]⟩,
  ⟨some 140, (some (138, true)), .call 14060 (some 36) [.v tI] false, [.t 139]⟩,
  ⟨some 141, (some (138, true)), .bin .eql tI, [.t 140, .int .i64 (-32)]⟩,
  ⟨some 142, none, .pick, [.t 138, .t 141, .bool false]⟩,
  ⟨some 143, none, .mov, [.t 142]⟩,
  ⟨some 144, (some (143, true)), .mov, [.t 18]⟩,
  ⟨some 145, (some (143, true)), .call 14080 (some 36) [.v tI] false, [.t 144]⟩,
  ⟨some 146, (some (143, true)), .bin .eql tI, [.t 145, .int .i64 0]⟩,
  ⟨some 147, none, .pick, [.t 143, .t 146, .bool false]⟩,
  ⟨some 148, none, .mov, [.t 147]⟩,
  ⟨some 149, (some (148, true)), .mov, [.t 18]⟩,
  ⟨some 150, (some (148, true)), .call 14100 (some 13) [.v tI] false, [.t 149]⟩,
  ⟨some 151, (some (148, true)), .bin .eql tI, [.t 150, .int .i64 11]⟩,
  ⟨some 152, none, .pick, [.t 148, .t 151, .bool false]⟩,
  ⟨some 153, none, .mov, [.t 152]⟩,
  ⟨some 154, (some (153, true)), .mov, [.t 1]⟩,
  ⟨some 155, (some (153, true)), .slice 14120 .snap t0 false true false, [.t 154, .int .i64 2]⟩,
  ⟨some 156, (some (153, true)), .call 14124 (some 13) [.v tI] false, [.t 155]⟩,
  ⟨some 157, (some (153, true)), .bin .eql tI, [.t 156, .int .i64 11]⟩,
  ⟨some 158, none, .pick, [.t 153, .t 157, .bool false]⟩,
  ⟨some 0, none, .mov, [.t 158]⟩])
 (.ret))))))))))))))⟩
def cf_garmentref11_Reversed : Fn := ⟨1, 20, [.t 2], [.o t0], none,
 .seq (.reg false [
  ⟨some 2, none, .own0 0 t0, []⟩])
 (.seq (.reg false [
  ⟨some 3, none, .own0 1000 t0, []⟩])
 (.seq (.seq (.reg false [
  ⟨some 5, none, .mov, [.t 0]⟩,
  ⟨some 6, none, .len, [.t 5]⟩,
  ⟨some 7, none, .bin .sub tI, [.t 6, .int .i64 1]⟩,
  ⟨some 4, none, .mov, [.t 7]⟩])
 (.block 0 (.loop 100000 [0, 3, 4] (.seq (.seq (.reg false [
  ⟨some 8, none, .mov, [.t 4]⟩,
  ⟨some 9, none, .bin .geq tI, [.t 8, .int .i64 0]⟩])
 (.cond (.t 9) (.skip) (.exit 0)))
 (.seq (.block 1 (.reg false [
  ⟨some 12, none, .mov, [.t 3]⟩,
  ⟨some 13, none, .mov, [.t 0]⟩,
  ⟨some 14, none, .mov, [.t 4]⟩,
  ⟨some 15, none, .iadr t0, [.t 13, .t 14]⟩,
  ⟨some 16, none, .load t0, [.t 15]⟩,
  ⟨some 17, none, .bsl 5020 t0 1 [0], [.t 16]⟩,
  ⟨some 18, none, .app 5024 t0 8796093022208, [.t 12, .t 17]⟩,
  ⟨some 3, none, .mov, [.t 18]⟩]))
 (.reg false [
  ⟨some 10, none, .mov, [.t 4]⟩,
  ⟨some 11, none, .bin .sub tI, [.t 10, .int .i64 1]⟩,
  ⟨some 4, none, .mov, [.t 11]⟩]))))))
 (.seq (.reg false [
  ⟨some 19, none, .mov, [.t 3]⟩,
  ⟨some 2, none, .mov, [.t 19]⟩])
 (.ret))))⟩
def cf_garmentref11_Less : Fn := ⟨2, 24, [.t 4], [.v .bool], none,
 .seq (.reg false [
  ⟨some 2, none, .box 0 t0, [.t 0]⟩,
  ⟨some 3, none, .box 4 t0, [.t 1]⟩,
  ⟨some 4, none, .mov, [.bool false]⟩])
 (.seq (.reg false [
  ⟨some 5, none, .fadr t0 [false], [.t 2]⟩,
  ⟨some 6, none, .load tI, [.t 5]⟩,
  ⟨some 7, none, .fadr t0 [false], [.t 3]⟩,
  ⟨some 8, none, .load tI, [.t 7]⟩,
  ⟨some 9, none, .bin .lss tI, [.t 6, .t 8]⟩,
  ⟨some 10, none, .mov, [.t 9]⟩,
  ⟨some 11, (some (10, false)), .fadr t0 [false], [.t 2]⟩,
  ⟨some 12, (some (10, false)), .load tI, [.t 11]⟩,
  ⟨some 13, (some (10, false)), .fadr t0 [false], [.t 3]⟩,
  ⟨some 14, (some (10, false)), .load tI, [.t 13]⟩,
  ⟨some 15, (some (10, false)), .bin .eql tI, [.t 12, .t 14]⟩,
  ⟨some 16, (some (10, false)), .mov, [.t 15]⟩,
  ⟨some 17, (some (16, true)), .fadr t0 [true], [.t 2]⟩,
  ⟨some 18, (some (16, true)), .load tI, [.t 17]⟩,
  ⟨some 19, (some (16, true)), .fadr t0 [true], [.t 3]⟩,
  ⟨some 20, (some (16, true)), .load tI, [.t 19]⟩,
  ⟨some 21, (some (16, true)), .bin .lss tI, [.t 18, .t 20]⟩,
  ⟨some 22, (some (10, false)), .pick, [.t 16, .t 21, .bool false]⟩,
  ⟨some 23, none, .pick, [.t 10, .bool true, .t 22]⟩,
  ⟨some 4, none, .mov, [.t 23]⟩])
 (.ret))⟩
def cf_garmentlaw11_PolygonNormal : Fn := ⟨3, 165, [.t 6], [.v .bool], none,
 .seq (.reg false [
  ⟨some 6, none, .mov, [.bool false]⟩])
 (.seq (.seq (.reg false [
  ⟨some 17, none, .mov, [.t 0]⟩,
  ⟨some 18, none, .call 1004 (some 81) [.v .bool] false, [.t 17]⟩,
  ⟨some 19, none, .not, [.t 18]⟩,
  ⟨some 20, none, .mov, [.t 19]⟩,
  ⟨some 21, (some (20, false)), .mov, [.t 0]⟩,
  ⟨some 22, (some (20, false)), .len, [.t 21]⟩,
  ⟨some 23, (some (20, false)), .bin .eql tI, [.t 22, .int .i64 0]⟩,
  ⟨some 24, none, .pick, [.t 20, .bool true, .t 23]⟩])
 (.cond (.t 24) (.seq (.reg false [
  ⟨some 25, none, .call 2000 (some 82) [.v .bool] false, []⟩,
  ⟨some 6, none, .mov, [.t 25]⟩])
 (.ret)) (.skip)))
 (.seq (.reg false [
  ⟨some 26, none, .mov, [.t 1]⟩,
  ⟨some 27, none, .conv .u8 .i64, [.t 26]⟩,
  ⟨some 28, none, .mov, [.t 0]⟩,
  ⟨some 29, none, .len, [.t 28]⟩,
  ⟨some 30, none, .bin .rem tI, [.t 27, .t 29]⟩,
  ⟨some 7, none, .mov, [.t 30]⟩])
 (.seq (.reg true [
  ⟨some 31, none, .bsl 4000 t0 0 [], []⟩,
  ⟨some 32, none, .mov, [.t 0]⟩,
  ⟨some 33, none, .mov, [.t 7]⟩,
  ⟨some 34, none, .slice 4012 .snap t0 true false false, [.t 32, .t 33]⟩,
  ⟨some 35, none, .app 4016 t0 8796093022208, [.t 31, .t 34]⟩,
  ⟨some 36, none, .mov, [.t 0]⟩,
  ⟨some 37, none, .mov, [.t 7]⟩,
  ⟨some 38, none, .slicei t0 false true false, [.t 36, .t 37]⟩,
  ⟨some 39, none, .app 4032 t0 8796093022208, [.t 35, .t 38]⟩,
  ⟨some 8, none, .mov, [.t 39]⟩])
 (.seq (.seq (.reg false [
  ⟨some 40, none, .mov, [.t 2]⟩])
 (.cond (.t 40) (.reg false [
  ⟨some 41, none, .mov, [.t 8]⟩,
  ⟨some 42, none, .call 6004 (some 86) [.o t0] false, [.t 41]⟩,
  ⟨some 8, none, .mov, [.t 42]⟩]) (.skip)))
 (.seq (.reg false [
  ⟨some 44, none, .mov, [.t 0]⟩,
  ⟨some 45, none, .call 7004 (some 8) [.v (.sl t0), .v tI] false, [.t 44]⟩,
  ⟨some 43, none, .mov, [.t 45]⟩,
  ⟨some 46, none, .ext 0, [.t 43]⟩,
  ⟨some 47, none, .ext 1, [.t 43]⟩,
  ⟨some 9, none, .mov, [.t 46]⟩,
  ⟨some 10, none, .mov, [.t 47]⟩])
 (.seq (.reg false [
  ⟨some 49, none, .mov, [.t 8]⟩,
  ⟨some 50, none, .call 8004 (some 8) [.v (.sl t0), .v tI] false, [.t 49]⟩,
  ⟨some 48, none, .mov, [.t 50]⟩,
  ⟨some 51, none, .ext 0, [.t 48]⟩,
  ⟨some 52, none, .ext 1, [.t 48]⟩,
  ⟨some 11, none, .mov, [.t 51]⟩,
  ⟨some 12, none, .mov, [.t 52]⟩])
 (.seq (.seq (.reg false [
  ⟨some 53, none, .mov, [.t 10]⟩,
  ⟨some 54, none, .mov, [.t 12]⟩,
  ⟨some 55, none, .bin .neq tI, [.t 53, .t 54]⟩,
  ⟨some 56, none, .mov, [.t 55]⟩,
  ⟨some 57, (some (56, false)), .mov, [.t 9]⟩,
  ⟨some 58, (some (56, false)), .mov, [.t 11]⟩,
  ⟨some 59, (some (56, false)), .call 9024 (some 7) [.v .bool] false, [.t 57, .t 58]⟩,
  ⟨some 60, (some (56, false)), .not, [.t 59]⟩,
  ⟨some 61, none, .pick, [.t 56, .bool true, .t 60]⟩])
 (.cond (.t 61) (.seq (.reg false [
  ⟨some 6, none, .mov, [.bool false]⟩])
 (.ret)) (.skip)))
 (.seq (.seq (.reg false [
  ⟨some 62, none, .mov, [.t 10]⟩,
  ⟨some 63, none, .bin .neq tI, [.t 62, .int .i64 0]⟩])
 (.cond (.t 63) (.seq (.reg false [
  ⟨some 64, none, .mov, [.t 9]⟩,
  ⟨some 65, none, .len, [.t 64]⟩,
  ⟨some 66, none, .bin .eql tI, [.t 65, .int .i64 0]⟩,
  ⟨some 67, none, .mov, [.t 66]⟩,
  ⟨some 68, (some (67, true)), .mov, [.t 0]⟩,
  ⟨some 69, (some (67, true)), .call 12020 (some 13) [.v tI] false, [.t 68]⟩,
  ⟨some 70, (some (67, true)), .mov, [.t 10]⟩,
  ⟨some 71, (some (67, true)), .bin .eql tI, [.t 69, .t 70]⟩,
  ⟨some 72, none, .pick, [.t 67, .t 71, .bool false]⟩,
  ⟨some 73, none, .mov, [.t 72]⟩,
  ⟨some 74, (some (73, true)), .call 12040 (some 82) [.v .bool] false, []⟩,
  ⟨some 75, none, .pick, [.t 73, .t 74, .bool false]⟩,
  ⟨some 6, none, .mov, [.t 75]⟩])
 (.ret)) (.skip)))
 (.seq (.reg false [
  ⟨some 77, none, .mov, [.t 9]⟩,
  ⟨some 78, none, .call 13004 (some 8) [.v (.sl t0), .v tI] false, [.t 77]⟩,
  ⟨some 76, none, .mov, [.t 78]⟩,
  ⟨some 79, none, .ext 0, [.t 76]⟩,
  ⟨some 80, none, .ext 1, [.t 76]⟩,
  ⟨some 13, none, .mov, [.t 79]⟩,
  ⟨some 14, none, .mov, [.t 80]⟩])
 (.seq (.reg false [
  ⟨some 81, none, .mov, [.t 0]⟩,
  ⟨some 82, none, .call 14004 (some 36) [.v tI] false, [.t 81]⟩,
  ⟨some 15, none, .mov, [.t 82]⟩])
 (.seq (.seq (.reg false [
  ⟨some 83, none, .mov, [.t 14]⟩,
  ⟨some 84, none, .bin .neq tI, [.t 83, .int .i64 0]⟩,
  ⟨some 85, none, .mov, [.t 84]⟩,
  ⟨some 86, (some (85, false)), .mov, [.t 9]⟩,
  ⟨some 87, (some (85, false)), .mov, [.t 13]⟩,
  ⟨some 88, (some (85, false)), .call 15020 (some 7) [.v .bool] false, [.t 86, .t 87]⟩,
  ⟨some 89, (some (85, false)), .not, [.t 88]⟩,
  ⟨some 90, none, .pick, [.t 85, .bool true, .t 89]⟩,
  ⟨some 91, none, .mov, [.t 90]⟩,
  ⟨some 92, (some (91, false)), .mov, [.t 9]⟩,
  ⟨some 93, (some (91, false)), .len, [.t 92]⟩,
  ⟨some 94, (some (91, false)), .bin .lss tI, [.t 93, .int .i64 3]⟩,
  ⟨some 95, none, .pick, [.t 91, .bool true, .t 94]⟩,
  ⟨some 96, none, .mov, [.t 95]⟩,
  ⟨some 97, (some (96, false)), .mov, [.t 9]⟩,
  ⟨some 98, (some (96, false)), .len, [.t 97]⟩,
  ⟨some 99, (some (96, false)), .mov, [.t 0]⟩,
  ⟨some 100, (some (96, false)), .len, [.t 99]⟩,
  ⟨some 101, (some (96, false)), .bin .gtr tI, [.t 98, .t 100]⟩,
  ⟨some 102, none, .pick, [.t 96, .bool true, .t 101]⟩,
  ⟨some 103, none, .mov, [.t 102]⟩,
  ⟨some 104, (some (103, false)), .mov, [.t 9]⟩,
  ⟨some 105, (some (103, false)), .call 15088 (some 36) [.v tI] false, [.t 104]⟩,
  ⟨some 106, (some (103, false)), .bin .leq tI, [.t 105, .int .i64 0]⟩,
  ⟨some 107, none, .pick, [.t 103, .bool true, .t 106]⟩,
  ⟨some 108, none, .mov, [.t 107]⟩,
  ⟨some 109, (some (108, false)), .mov, [.t 15]⟩,
  ⟨some 110, (some (108, false)), .mov, [.t 9]⟩,
  ⟨some 111, (some (108, false)), .call 15112 (some 36) [.v tI] false, [.t 110]⟩,
  ⟨some 112, (some (108, false)), .bin .neq tI, [.t 109, .t 111]⟩,
  ⟨some 113, (some (108, false)), .mov, [.t 112]⟩,
  ⟨some 114, (some (113, true)), .mov, [.t 15]⟩,
  ⟨some 115, (some (113, true)), .mov, [.t 9]⟩,
  ⟨some 116, (some (113, true)), .call 15132 (some 36) [.v tI] false, [.t 115]⟩,
  ⟨some 117, (some (113, true)), .neg .i64, [.t 116]⟩,
  ⟨some 118, (some (113, true)), .bin .neq tI, [.t 114, .t 117]⟩,
  ⟨some 119, (some (108, false)), .pick, [.t 113, .t 118, .bool false]⟩,
  ⟨some 120, none, .pick, [.t 108, .bool true, .t 119]⟩])
 (.cond (.t 120) (.seq (.reg false [
  ⟨some 6, none, .mov, [.bool false]⟩])
 (.ret)) (.skip)))
 (.seq (.seq (.reg false [
  ⟨some 16, none, .mov, [.int .i64 0]⟩])
 (.block 0 (.loop 100000 [9, 16] (.seq (.seq (.reg false [
  ⟨some 121, none, .mov, [.t 16]⟩,
  ⟨some 122, none, .mov, [.t 9]⟩,
  ⟨some 123, none, .len, [.t 122]⟩,
  ⟨some 124, none, .bin .lss tI, [.t 121, .t 123]⟩])
 (.cond (.t 124) (.skip) (.exit 0)))
 (.seq (.block 1 (.seq (.reg true [
  ⟨some 127, none, .mov, [.t 16]⟩,
  ⟨some 128, none, .bin .gtr tI, [.t 127, .int .i64 0]⟩,
  ⟨some 129, none, .mov, [.t 128]⟩,
  ⟨some 130, (some (129, true)), .mov, [.t 9]⟩,
  ⟨some 131, (some (129, true)), .iadr t0, [.t 130, .int .i64 0]⟩,
  ⟨some 132, (some (129, true)), .load t0, [.t 131]⟩,
  ⟨some 133, (some (129, true)), .mov, [.t 9]⟩,
  ⟨some 134, (some (129, true)), .mov, [.t 16]⟩,
  ⟨some 135, (some (129, true)), .iadr t0, [.t 133, .t 134]⟩,
  ⟨some 136, (some (129, true)), .load t0, [.t 135]⟩,
  ⟨some 137, (some (129, true)), .call 20040 (some 88) [.v .bool] false, [.t 132, .t 136]⟩,
  ⟨some 138, (some (129, true)), .not, [.t 137]⟩,
  ⟨some 139, none, .pick, [.t 129, .t 138, .bool false]⟩,
  ⟨some 140, none, .mov, [.t 139]⟩,
  ⟨some 141, (some (140, false)), .mov, [.t 9]⟩,
  ⟨some 142, (some (140, false)), .mov, [.t 16]⟩,
  ⟨some 143, (some (140, false)), .iadr t0, [.t 141, .t 142]⟩,
  ⟨some 144, (some (140, false)), .load t0, [.t 143]⟩,
  ⟨some 145, (some (140, false)), .mov, [.t 9]⟩,
  ⟨some 146, (some (140, false)), .mov, [.t 16]⟩,
  ⟨some 147, (some (140, false)), .bin .add tI, [.t 146, .int .i64 1]⟩,
  ⟨some 148, (some (140, false)), .mov, [.t 9]⟩,
  ⟨some 149, (some (140, false)), .len, [.t 148]⟩,
  ⟨some 150, (some (140, false)), .bin .rem tI, [.t 147, .t 149]⟩,
  ⟨some 151, (some (140, false)), .iadr t0, [.t 145, .t 150]⟩,
  ⟨some 152, (some (140, false)), .load t0, [.t 151]⟩,
  ⟨some 153, (some (140, false)), .mov, [.t 9]⟩,
  ⟨some 154, (some (140, false)), .mov, [.t 16]⟩,
  ⟨some 155, (some (140, false)), .bin .add tI, [.t 154, .int .i64 2]⟩,
  ⟨some 156, (some (140, false)), .mov, [.t 9]⟩,
  ⟨some 157, (some (140, false)), .len, [.t 156]⟩,
  ⟨some 158, (some (140, false)), .bin .rem tI, [.t 155, .t 157]⟩,
  ⟨some 159, (some (140, false)), .iadr t0, [.t 153, .t 158]⟩,
  ⟨some 160, (some (140, false)), .load t0, [.t 159]⟩,
  ⟨some 161, (some (140, false)), .call 20136 (some 33) [.v tI] false, [.t 144, .t 152, .t 160]⟩,
  ⟨some 162, (some (140, false)), .bin .eql tI, [.t 161, .int .i64 0]⟩,
  ⟨some 163, none, .pick, [.t 140, .bool true, .t 162]⟩])
 (.cond (.t 163) (.seq (.reg false [
  ⟨some 6, none, .mov, [.bool false]⟩])
 (.ret)) (.skip))))
 (.reg false [
  ⟨some 125, none, .mov, [.t 16]⟩,
  ⟨some 126, none, .bin .add tI, [.t 125, .int .i64 1]⟩,
  ⟨some 16, none, .mov, [.t 126]⟩]))))))
 (.seq (.reg false [
  ⟨some 164, none, .call 22000 (some 82) [.v .bool] false, []⟩,
  ⟨some 6, none, .mov, [.t 164]⟩])
 (.ret))))))))))))))⟩
end Pm
end
section
/- The table of the functions. -/
namespace Pm
open Go
set_option maxRecDepth 20000
set_option linter.unusedVariables false
def G : Nat → Option Fn := fun n =>
 cond (Nat.beq n 7) (some cf_garmentref11_Same) <|
 cond (Nat.beq n 8) (some cf_polygon_Normal) <|
 cond (Nat.beq n 13) (some cf_polygon_Check) <|
 cond (Nat.beq n 14) (some cf_polygon_turn) <|
 cond (Nat.beq n 15) (some cf_polygon_area) <|
 cond (Nat.beq n 16) (some cf_slices_Reverse_api_Spot_api_Spot) <|
 cond (Nat.beq n 17) (some cf_slices_MinFunc_api_Spot_api_Spot) <|
 cond (Nat.beq n 18) (some cf_polygon_order) <|
 cond (Nat.beq n 19) (some cf_slices_Index_api_Spot_api_Spot) <|
 cond (Nat.beq n 20) (some cf_polygon_inside) <|
 cond (Nat.beq n 21) (some cf_polygon_simple) <|
 cond (Nat.beq n 22) (some cf_polygon_sides) <|
 cond (Nat.beq n 23) (some cf_polygon_side_holds) <|
 cond (Nat.beq n 24) (some cf_polygon_side_meets) <|
 cond (Nat.beq n 25) (some cf_polygon_within) <|
 cond (Nat.beq n 26) (some cf_polygon_side_divides) <|
 cond (Nat.beq n 33) (some cf_garmentref11_Cross) <|
 cond (Nat.beq n 36) (some cf_polygon_Area2) <|
 cond (Nat.beq n 41) (some cf_polygon_Convex) <|
 cond (Nat.beq n 43) (some cf_polygon_Where) <|
 cond (Nat.beq n 61) (some cf_polygon_Box) <|
 cond (Nat.beq n 67) (some cf_garmentref11_Check) <|
 cond (Nat.beq n 68) (some cf_garmentref11_Within) <|
 cond (Nat.beq n 69) (some cf_garmentref11_simple) <|
 cond (Nat.beq n 70) (some cf_garmentref11_Between) <|
 cond (Nat.beq n 71) (some cf_garmentref11_meet) <|
 cond (Nat.beq n 72) (some cf_garmentref11_sign) <|
 cond (Nat.beq n 81) (some cf_garmentlaw11_few) <|
 cond (Nat.beq n 82) (some cf_garmentlaw11_awake) <|
 cond (Nat.beq n 86) (some cf_garmentref11_Reversed) <|
 cond (Nat.beq n 88) (some cf_garmentref11_Less) <|
 cond (Nat.beq n 92) (some cf_garmentlaw11_PolygonNormal) <| none
noncomputable def CG : CallF := limC G
end Pm
end
