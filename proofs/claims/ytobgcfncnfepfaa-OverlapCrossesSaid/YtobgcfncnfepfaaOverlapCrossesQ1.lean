/- Parts of the proof of OverlapCrosses, joined: Cf0, Cf. -/
import Derived.Test.YtobgcfncnfepfaaOverlapCrossesQ0
set_option linter.unusedVariables false
set_option linter.unusedSimpArgs false
section
/- The functions that the law reaches, in the plain form: written by a program of mine out of the translation. -/
namespace Pm
open Go
set_option maxRecDepth 20000
set_option linter.unusedVariables false
def cf_triangle_Split : Fn := ⟨1, 82, [.t 2, .t 3], [.o (.sl t0), .v tI], none,
 .seq (.reg false [
  ⟨some 2, none, .own0 0 (.sl t0), []⟩,
  ⟨some 3, none, .mov, [.int .i64 0]⟩])
 (.seq (.reg false [
  ⟨some 13, none, .mov, [.t 0]⟩,
  ⟨some 14, none, .call 1004 (some 8) [.v (.sl t0), .v tI] false, [.t 13]⟩,
  ⟨some 12, none, .mov, [.t 14]⟩,
  ⟨some 15, none, .ext 0, [.t 12]⟩,
  ⟨some 16, none, .ext 1, [.t 12]⟩,
  ⟨some 4, none, .alloc 1020 (.sl t0), []⟩,
  ⟨none, none, .store (.sl t0), [.t 4, .t 15]⟩,
  ⟨some 5, none, .mov, [.t 16]⟩])
 (.seq (.seq (.reg false [
  ⟨some 17, none, .mov, [.t 5]⟩,
  ⟨some 18, none, .bin .neq tI, [.t 17, .int .i64 0]⟩])
 (.cond (.t 18) (.seq (.reg false [
  ⟨some 19, none, .mov, [.t 5]⟩,
  ⟨some 2, none, .own0 3004 (.sl t0), []⟩,
  ⟨some 3, none, .mov, [.t 19]⟩])
 (.ret)) (.skip)))
 (.seq (.reg false [
  ⟨some 20, none, .mkfn 9, [.t 4]⟩,
  ⟨some 6, none, .mov, [.t 20]⟩])
 (.seq (.reg false [
  ⟨some 21, none, .mkfn 10, [.t 4]⟩,
  ⟨some 7, none, .mov, [.t 21]⟩])
 (.seq (.reg false [
  ⟨some 8, none, .own0 6000 (.sl t0), []⟩])
 (.seq (.block 0 (.loop 100000 [4, 6, 7, 8] (.seq (.seq (.reg false [
  ⟨some 22, none, .load (.sl t0), [.t 4]⟩,
  ⟨some 23, none, .len, [.t 22]⟩,
  ⟨some 24, none, .bin .gtr tI, [.t 23, .int .i64 3]⟩])
 (.cond (.t 24) (.skip) (.exit 0)))
 (.block 1 (.seq (.seq (.reg false [
  ⟨some 25, none, .load (.sl t0), [.t 4]⟩,
  ⟨some 26, none, .len, [.t 25]⟩,
  ⟨some 27, none, .mov, [.t 6]⟩,
  ⟨some 28, none, .call 8012 (some 11) [.v tI] false, [.t 26, .t 27]⟩,
  ⟨some 9, none, .mov, [.t 28]⟩])
 (.seq (.reg false [
  ⟨some 29, none, .mov, [.t 9]⟩,
  ⟨some 30, none, .bin .geq tI, [.t 29, .int .i64 0]⟩])
 (.cond (.t 30) (.seq (.reg false [
  ⟨some 31, none, .load (.sl t0), [.t 4]⟩,
  ⟨some 32, none, .mov, [.t 9]⟩,
  ⟨some 33, none, .call 10008 (some 12) [.o t0] false, [.t 31, .t 32]⟩,
  ⟨none, none, .store (.sl t0), [.t 4, .t 33]⟩])
 (.exit 1)) (.skip))))
 (.seq (.reg false [
  ⟨some 34, none, .load (.sl t0), [.t 4]⟩,
  ⟨some 35, none, .len, [.t 34]⟩,
  ⟨some 36, none, .mov, [.t 7]⟩,
  ⟨some 37, none, .call 11012 (some 11) [.v tI] false, [.t 35, .t 36]⟩,
  ⟨some 10, none, .mov, [.t 37]⟩])
 (.seq (.seq (.reg false [
  ⟨some 38, none, .mov, [.t 10]⟩,
  ⟨some 39, none, .bin .lss tI, [.t 38, .int .i64 0]⟩])
 (.cond (.t 39) (.exit 0) (.skip)))
 (.seq (.reg false [
  ⟨some 40, none, .load (.sl t0), [.t 4]⟩,
  ⟨some 41, none, .len, [.t 40]⟩,
  ⟨some 11, none, .mov, [.t 41]⟩])
 (.seq (.reg true [
  ⟨some 42, none, .mov, [.t 8]⟩,
  ⟨some 43, none, .load (.sl t0), [.t 4]⟩,
  ⟨some 44, none, .mov, [.t 10]⟩,
  ⟨some 45, none, .mov, [.t 11]⟩,
  ⟨some 46, none, .bin .add tI, [.t 44, .t 45]⟩,
  ⟨some 47, none, .bin .sub tI, [.t 46, .int .i64 1]⟩,
  ⟨some 48, none, .mov, [.t 11]⟩,
  ⟨some 49, none, .bin .rem tI, [.t 47, .t 48]⟩,
  ⟨some 50, none, .iadr t0, [.t 43, .t 49]⟩,
  ⟨some 51, none, .load t0, [.t 50]⟩,
  ⟨some 52, none, .load (.sl t0), [.t 4]⟩,
  ⟨some 53, none, .mov, [.t 10]⟩,
  ⟨some 54, none, .iadr t0, [.t 52, .t 53]⟩,
  ⟨some 55, none, .load t0, [.t 54]⟩,
  ⟨some 56, none, .load (.sl t0), [.t 4]⟩,
  ⟨some 57, none, .mov, [.t 10]⟩,
  ⟨some 58, none, .bin .add tI, [.t 57, .int .i64 1]⟩,
  ⟨some 59, none, .mov, [.t 11]⟩,
  ⟨some 60, none, .bin .rem tI, [.t 58, .t 59]⟩,
  ⟨some 61, none, .iadr t0, [.t 56, .t 60]⟩,
  ⟨some 62, none, .load t0, [.t 61]⟩,
  ⟨some 63, none, .bsl 14084 t0 3 [0, 1, 2], [.t 51, .t 55, .t 62]⟩,
  ⟨some 64, none, .bsl 14088 (.sl t0) 1 [0], [.t 63]⟩,
  ⟨some 65, none, .app 14092 (.sl t0) 5864062014805, [.t 42, .t 64]⟩,
  ⟨some 8, none, .mov, [.t 65]⟩])
 (.reg false [
  ⟨some 66, none, .load (.sl t0), [.t 4]⟩,
  ⟨some 67, none, .mov, [.t 10]⟩,
  ⟨some 68, none, .call 15008 (some 12) [.o t0] false, [.t 66, .t 67]⟩,
  ⟨none, none, .store (.sl t0), [.t 4, .t 68]⟩]))))))))))
 (.seq (.reg true [
  ⟨some 69, none, .mov, [.t 8]⟩,
  ⟨some 70, none, .load (.sl t0), [.t 4]⟩,
  ⟨some 71, none, .iadr t0, [.t 70, .int .i64 0]⟩,
  ⟨some 72, none, .load t0, [.t 71]⟩,
  ⟨some 73, none, .load (.sl t0), [.t 4]⟩,
  ⟨some 74, none, .iadr t0, [.t 73, .int .i64 1]⟩,
  ⟨some 75, none, .load t0, [.t 74]⟩,
  ⟨some 76, none, .load (.sl t0), [.t 4]⟩,
  ⟨some 77, none, .iadr t0, [.t 76, .int .i64 2]⟩,
  ⟨some 78, none, .load t0, [.t 77]⟩,
  ⟨some 79, none, .bsl 16040 t0 3 [0, 1, 2], [.t 72, .t 75, .t 78]⟩,
  ⟨some 80, none, .bsl 16044 (.sl t0) 1 [0], [.t 79]⟩,
  ⟨some 81, none, .app 16048 (.sl t0) 5864062014805, [.t 69, .t 80]⟩,
  ⟨some 2, none, .mov, [.t 81]⟩,
  ⟨some 3, none, .mov, [.int .i64 0]⟩])
 (.ret))))))))⟩
def cf_polygon_Normal : Fn := ⟨1, 68, [.t 2, .t 3], [.v (.sl t0), .v tI], none,
 .seq (.reg false [
  ⟨some 2, none, .own0 0 t0, []⟩,
  ⟨some 3, none, .mov, [.int .i64 0]⟩])
 (.seq (.seq (.reg false [
  ⟨some 9, none, .mov, [.t 0]⟩,
  ⟨some 10, none, .call 1004 (some 13) [.v tI] false, [.t 9]⟩,
  ⟨some 4, none, .mov, [.t 10]⟩])
 (.seq (.reg false [
  ⟨some 11, none, .mov, [.t 4]⟩,
  ⟨some 12, none, .bin .neq tI, [.t 11, .int .i64 0]⟩])
 (.cond (.t 12) (.seq (.reg false [
  ⟨some 13, none, .mov, [.t 4]⟩,
  ⟨some 2, none, .own0 3004 t0, []⟩,
  ⟨some 3, none, .mov, [.t 13]⟩])
 (.ret)) (.skip))))
 (.seq (.reg false [
  ⟨some 5, none, .own0 4000 t0, []⟩])
 (.seq (.seq (.reg false [
  ⟨some 14, none, .mov, [.t 0]⟩,
  ⟨some 15, none, .len, [.t 14]⟩,
  ⟨some 16, none, .mov, [.int .i64 0]⟩])
 (.block 0 (.loop 100000 [0, 5, 14, 15, 16] (.seq (.reg false [
  ⟨some 17, none, .bin .lss tI, [.t 16, .t 15]⟩])
 (.seq (.cond (.t 17) (.skip) (.exit 0))
 (.seq (.block 1 (.seq (.reg false [
  ⟨some 18, none, .mov, [.t 16]⟩,
  ⟨some 19, none, .iadr t0, [.t 14, .t 16]⟩,
  ⟨some 20, none, .load t0, [.t 19]⟩,
  ⟨some 7, none, .alloc 7012 t0, []⟩,
  ⟨some 6, none, .mov, [.t 18]⟩,
  ⟨none, none, .store t0, [.t 7, .t 20]⟩])
 (.seq (.reg true [
  ⟨some 21, none, .mov, [.t 0]⟩,
  ⟨some 22, none, .mov, [.t 6]⟩,
  ⟨some 23, none, .mov, [.t 0]⟩,
  ⟨some 24, none, .len, [.t 23]⟩,
  ⟨some 25, none, .bin .add tI, [.t 22, .t 24]⟩,
  ⟨some 26, none, .bin .sub tI, [.t 25, .int .i64 1]⟩,
  ⟨some 27, none, .mov, [.t 0]⟩,
  ⟨some 28, none, .len, [.t 27]⟩,
  ⟨some 29, none, .bin .rem tI, [.t 26, .t 28]⟩,
  ⟨some 30, none, .iadr t0, [.t 21, .t 29]⟩,
  ⟨some 31, none, .load t0, [.t 30]⟩,
  ⟨some 32, none, .load t0, [.t 7]⟩,
  ⟨some 33, none, .mov, [.t 0]⟩,
  ⟨some 34, none, .mov, [.t 6]⟩,
  ⟨some 35, none, .bin .add tI, [.t 34, .int .i64 1]⟩,
  ⟨some 36, none, .mov, [.t 0]⟩,
  ⟨some 37, none, .len, [.t 36]⟩,
  ⟨some 38, none, .bin .rem tI, [.t 35, .t 37]⟩,
  ⟨some 39, none, .iadr t0, [.t 33, .t 38]⟩,
  ⟨some 40, none, .load t0, [.t 39]⟩,
  ⟨some 41, none, .call 8080 (some 14) [.v tI] false, [.t 31, .t 32, .t 40]⟩,
  ⟨some 42, none, .bin .neq tI, [.t 41, .int .i64 0]⟩])
 (.cond (.t 42) (.reg false [
  ⟨some 43, none, .mov, [.t 5]⟩,
  ⟨some 44, none, .load t0, [.t 7]⟩,
  ⟨some 45, none, .bsl 9008 t0 1 [0], [.t 44]⟩,
  ⟨some 46, none, .app 9012 t0 8796093022208, [.t 43, .t 45]⟩,
  ⟨some 5, none, .mov, [.t 46]⟩]) (.skip)))))
 (.reg false [
  ⟨some 47, none, .bin .add tI, [.t 16, .int .i64 1]⟩,
  ⟨some 16, none, .mov, [.t 47]⟩])))))))
 (.seq (.seq (.reg false [
  ⟨some 48, none, .mov, [.t 0]⟩,
  ⟨some 49, none, .call 11004 (some 15) [.v tI] false, [.t 48]⟩,
  ⟨some 50, none, .bin .lss tI, [.t 49, .int .i64 0]⟩])
 (.cond (.t 50) (.reg false [
  ⟨some 51, none, .mov, [.t 5]⟩,
  ⟨some 52, none, .call 12004 (some 16) [] true, [.t 51]⟩]) (.skip)))
 (.seq (.reg false [
  ⟨some 53, none, .mov, [.t 5]⟩,
  ⟨some 54, none, .mov, [.t 5]⟩,
  ⟨some 55, none, .call 13008 (some 17) [.v t0] false, [.t 54, .fn 18]⟩,
  ⟨some 56, none, .call 13012 (some 19) [.v tI] false, [.t 53, .t 55]⟩,
  ⟨some 8, none, .mov, [.t 56]⟩])
 (.seq (.reg true [
  ⟨some 57, none, .mov, [.t 5]⟩,
  ⟨some 58, none, .mov, [.t 8]⟩,
  ⟨some 59, none, .mov, [.t 5]⟩,
  ⟨some 60, none, .len, [.t 59]⟩,
  ⟨some 61, none, .mov, [.t 5]⟩,
  ⟨some 62, none, .len, [.t 61]⟩,
  ⟨some 63, none, .slice 14024 .snap t0 true true true, [.t 57, .t 58, .t 60, .t 62]⟩,
  ⟨some 64, none, .mov, [.t 5]⟩,
  ⟨some 65, none, .mov, [.t 8]⟩,
  ⟨some 66, none, .slice 14036 .snap t0 false true false, [.t 64, .t 65]⟩,
  ⟨some 67, none, .app 14040 t0 8796093022208, [.t 63, .t 66]⟩,
  ⟨some 2, none, .mov, [.t 67]⟩,
  ⟨some 3, none, .mov, [.int .i64 0]⟩])
 (.ret)))))))⟩
def cf_triangle_Split_1 : Fn := ⟨4, 22, [.t 7], [.v .bool], none,
 .seq (.reg false [
  ⟨some 7, none, .mov, [.bool false]⟩])
 (.seq (.reg true [
  ⟨some 8, none, .load (.sl t0), [.t 3]⟩,
  ⟨some 9, none, .mov, [.t 0]⟩,
  ⟨some 10, none, .iadr t0, [.t 8, .t 9]⟩,
  ⟨some 11, none, .load t0, [.t 10]⟩,
  ⟨some 12, none, .load (.sl t0), [.t 3]⟩,
  ⟨some 13, none, .mov, [.t 1]⟩,
  ⟨some 14, none, .iadr t0, [.t 12, .t 13]⟩,
  ⟨some 15, none, .load t0, [.t 14]⟩,
  ⟨some 16, none, .load (.sl t0), [.t 3]⟩,
  ⟨some 17, none, .mov, [.t 2]⟩,
  ⟨some 18, none, .iadr t0, [.t 16, .t 17]⟩,
  ⟨some 19, none, .load t0, [.t 18]⟩,
  ⟨some 20, none, .call 1048 (some 27) [.v tI] false, [.t 11, .t 15, .t 19]⟩,
  ⟨some 21, none, .bin .eql tI, [.t 20, .int .i64 0]⟩,
  ⟨some 7, none, .mov, [.t 21]⟩])
 (.ret))⟩
def cf_triangle_Split_2 : Fn := ⟨4, 61, [.t 7], [.v .bool], none,
 .seq (.reg false [
  ⟨some 7, none, .mov, [.bool false]⟩])
 (.seq (.seq (.reg true [
  ⟨some 10, none, .load (.sl t0), [.t 3]⟩,
  ⟨some 11, none, .mov, [.t 0]⟩,
  ⟨some 12, none, .iadr t0, [.t 10, .t 11]⟩,
  ⟨some 13, none, .load t0, [.t 12]⟩,
  ⟨some 14, none, .load (.sl t0), [.t 3]⟩,
  ⟨some 15, none, .mov, [.t 1]⟩,
  ⟨some 16, none, .iadr t0, [.t 14, .t 15]⟩,
  ⟨some 17, none, .load t0, [.t 16]⟩,
  ⟨some 18, none, .load (.sl t0), [.t 3]⟩,
  ⟨some 19, none, .mov, [.t 2]⟩,
  ⟨some 20, none, .iadr t0, [.t 18, .t 19]⟩,
  ⟨some 21, none, .load t0, [.t 20]⟩,
  ⟨some 22, none, .call 1048 (some 27) [.v tI] false, [.t 13, .t 17, .t 21]⟩,
  ⟨some 23, none, .bin .leq tI, [.t 22, .int .i64 0]⟩])
 (.cond (.t 23) (.seq (.reg false [
  ⟨some 7, none, .mov, [.bool false]⟩])
 (.ret)) (.skip)))
 (.seq (.seq (.reg false [
  ⟨some 24, none, .load (.sl t0), [.t 3]⟩,
  ⟨some 25, none, .len, [.t 24]⟩,
  ⟨some 26, none, .mov, [.int .i64 0]⟩])
 (.block 0 (.loop 100000 [0, 1, 2, 3, 24, 25, 26] (.seq (.reg false [
  ⟨some 27, none, .bin .lss tI, [.t 26, .t 25]⟩])
 (.seq (.cond (.t 27) (.skip) (.exit 0))
 (.seq (.block 1 (.seq (.reg false [
  ⟨some 28, none, .mov, [.t 26]⟩,
  ⟨some 29, none, .iadr t0, [.t 24, .t 26]⟩,
  ⟨some 30, none, .load t0, [.t 29]⟩,
  ⟨some 9, none, .alloc 5012 t0, []⟩,
  ⟨some 8, none, .mov, [.t 28]⟩,
  ⟨none, none, .store t0, [.t 9, .t 30]⟩])
 (.seq (.reg true [
  ⟨some 31, none, .mov, [.t 8]⟩,
  ⟨some 32, none, .mov, [.t 0]⟩,
  ⟨some 33, none, .bin .neq tI, [.t 31, .t 32]⟩,
  ⟨some 34, none, .mov, [.t 33]⟩,
  ⟨some 35, (some (34, true)), .mov, [.t 8]⟩,
  ⟨some 36, (some (34, true)), .mov, [.t 1]⟩,
  ⟨some 37, (some (34, true)), .bin .neq tI, [.t 35, .t 36]⟩,
  ⟨some 38, none, .pick, [.t 34, .t 37, .bool false]⟩,
  ⟨some 39, none, .mov, [.t 38]⟩,
  ⟨some 40, (some (39, true)), .mov, [.t 8]⟩,
  ⟨some 41, (some (39, true)), .mov, [.t 2]⟩,
  ⟨some 42, (some (39, true)), .bin .neq tI, [.t 40, .t 41]⟩,
  ⟨some 43, none, .pick, [.t 39, .t 42, .bool false]⟩,
  ⟨some 44, none, .mov, [.t 43]⟩,
  ⟨some 45, (some (44, true)), .load (.sl t0), [.t 3]⟩,
  ⟨some 46, (some (44, true)), .mov, [.t 0]⟩,
  ⟨some 47, (some (44, true)), .iadr t0, [.t 45, .t 46]⟩,
  ⟨some 48, (some (44, true)), .load t0, [.t 47]⟩,
  ⟨some 49, (some (44, true)), .load (.sl t0), [.t 3]⟩,
  ⟨some 50, (some (44, true)), .mov, [.t 1]⟩,
  ⟨some 51, (some (44, true)), .iadr t0, [.t 49, .t 50]⟩,
  ⟨some 52, (some (44, true)), .load t0, [.t 51]⟩,
  ⟨some 53, (some (44, true)), .load (.sl t0), [.t 3]⟩,
  ⟨some 54, (some (44, true)), .mov, [.t 2]⟩,
  ⟨some 55, (some (44, true)), .iadr t0, [.t 53, .t 54]⟩,
  ⟨some 56, (some (44, true)), .load t0, [.t 55]⟩,
  ⟨some 57, (some (44, true)), .load t0, [.t 9]⟩,
  ⟨some 58, (some (44, true)), .call 6108 (some 28) [.v .bool] false, [.t 48, .t 52, .t 56, .t 57]⟩,
  ⟨some 59, none, .pick, [.t 44, .t 58, .bool false]⟩])
 (.cond (.t 59) (.seq (.reg false [
  ⟨some 7, none, .mov, [.bool false]⟩])
 (.ret)) (.skip)))))
 (.reg false [
  ⟨some 60, none, .bin .add tI, [.t 26, .int .i64 1]⟩,
  ⟨some 26, none, .mov, [.t 60]⟩])))))))
 (.seq (.reg false [
  ⟨some 7, none, .mov, [.bool true]⟩])
 (.ret))))⟩
def cf_triangle_find : Fn := ⟨2, 25, [.t 4], [.v tI], none,
 .seq (.reg false [
  ⟨some 4, none, .mov, [.int .i64 0]⟩])
 (.seq (.seq (.reg false [
  ⟨some 6, none, .mov, [.t 0]⟩,
  ⟨some 7, none, .mov, [.int .i64 0]⟩])
 (.block 0 (.loop 100000 [0, 1, 6, 7] (.seq (.reg false [
  ⟨some 8, none, .bin .lss tI, [.t 7, .t 6]⟩])
 (.seq (.cond (.t 8) (.skip) (.exit 0))
 (.seq (.block 1 (.seq (.reg false [
  ⟨some 9, none, .mov, [.t 7]⟩,
  ⟨some 5, none, .mov, [.t 9]⟩])
 (.seq (.reg true [
  ⟨some 10, none, .mov, [.t 1]⟩,
  ⟨some 11, none, .mov, [.t 5]⟩,
  ⟨some 12, none, .mov, [.t 0]⟩,
  ⟨some 13, none, .bin .add tI, [.t 11, .t 12]⟩,
  ⟨some 14, none, .bin .sub tI, [.t 13, .int .i64 1]⟩,
  ⟨some 15, none, .mov, [.t 0]⟩,
  ⟨some 16, none, .bin .rem tI, [.t 14, .t 15]⟩,
  ⟨some 17, none, .mov, [.t 5]⟩,
  ⟨some 18, none, .mov, [.t 5]⟩,
  ⟨some 19, none, .bin .add tI, [.t 18, .int .i64 1]⟩,
  ⟨some 20, none, .mov, [.t 0]⟩,
  ⟨some 21, none, .bin .rem tI, [.t 19, .t 20]⟩,
  ⟨some 22, none, .call 4048 none [.v .bool] false, [.t 10, .t 16, .t 17, .t 21]⟩])
 (.cond (.t 22) (.seq (.reg false [
  ⟨some 23, none, .mov, [.t 5]⟩,
  ⟨some 4, none, .mov, [.t 23]⟩])
 (.ret)) (.skip)))))
 (.reg false [
  ⟨some 24, none, .bin .add tI, [.t 7, .int .i64 1]⟩,
  ⟨some 7, none, .mov, [.t 24]⟩])))))))
 (.seq (.reg false [
  ⟨some 4, none, .mov, [.int .i64 (-1)]⟩])
 (.ret)))⟩
def cf_triangle_without : Fn := ⟨2, 24, [.t 4], [.o t0], none,
 .seq (.reg false [
  ⟨some 4, none, .own0 0 t0, []⟩])
 (.seq (.reg false [
  ⟨some 6, none, .mov, [.t 0]⟩,
  ⟨some 7, none, .len, [.t 6]⟩,
  ⟨some 8, none, .bin .sub tI, [.t 7, .int .i64 1]⟩,
  ⟨some 9, none, .mksl 1012 t0 17592186044416, [.t 8, .t 8]⟩,
  ⟨some 5, none, .mov, [.t 9]⟩])
 (.seq (.reg false [
  ⟨some 10, none, .mov, [.t 5]⟩,
  ⟨some 11, none, .mov, [.t 0]⟩,
  ⟨some 12, none, .mov, [.t 1]⟩,
  ⟨some 13, none, .slice 2012 .snap t0 false true false, [.t 11, .t 12]⟩,
  ⟨some 14, none, .copy t0, [.t 10, .t 13]⟩])
 (.seq (.reg true [
  ⟨some 15, none, .mov, [.t 5]⟩,
  ⟨some 16, none, .mov, [.t 1]⟩,
  ⟨some 17, none, .slice 3008 .view t0 true false false, [.t 15, .t 16]⟩,
  ⟨some 18, none, .mov, [.t 0]⟩,
  ⟨some 19, none, .mov, [.t 1]⟩,
  ⟨some 20, none, .bin .add tI, [.t 19, .int .i64 1]⟩,
  ⟨some 21, none, .slicei t0 true false false, [.t 18, .t 20]⟩,
  ⟨some 22, none, .copy t0, [.t 17, .t 21]⟩])
 (.seq (.reg false [
  ⟨some 23, none, .mov, [.t 5]⟩,
  ⟨some 4, none, .mov, [.t 23]⟩])
 (.ret)))))⟩
def cf_polygon_Check : Fn := ⟨1, 31, [.t 2], [.v tI], none,
 .seq (.reg false [
  ⟨some 2, none, .mov, [.int .i64 0]⟩])
 (.seq (.seq (.reg false [
  ⟨some 5, none, .mov, [.t 0]⟩,
  ⟨some 6, none, .len, [.t 5]⟩,
  ⟨some 7, none, .bin .gtr tI, [.t 6, .int .i64 40]⟩])
 (.cond (.t 7) (.seq (.reg false [
  ⟨some 2, none, .mov, [.int .i64 5]⟩])
 (.ret)) (.skip)))
 (.seq (.seq (.reg false [
  ⟨some 8, none, .mov, [.t 0]⟩,
  ⟨some 9, none, .len, [.t 8]⟩,
  ⟨some 10, none, .bin .lss tI, [.t 9, .int .i64 3]⟩])
 (.cond (.t 10) (.seq (.reg false [
  ⟨some 2, none, .mov, [.int .i64 11]⟩])
 (.ret)) (.skip)))
 (.seq (.seq (.reg false [
  ⟨some 11, none, .mov, [.t 0]⟩,
  ⟨some 12, none, .len, [.t 11]⟩,
  ⟨some 13, none, .mov, [.int .i64 0]⟩])
 (.block 0 (.loop 100000 [0, 11, 12, 13] (.seq (.reg false [
  ⟨some 14, none, .bin .lss tI, [.t 13, .t 12]⟩])
 (.seq (.cond (.t 14) (.skip) (.exit 0))
 (.seq (.block 1 (.seq (.reg false [
  ⟨some 15, none, .iadr t0, [.t 11, .t 13]⟩,
  ⟨some 16, none, .load t0, [.t 15]⟩,
  ⟨some 4, none, .alloc 7008 t0, []⟩,
  ⟨none, none, .store t0, [.t 4, .t 16]⟩])
 (.seq (.reg false [
  ⟨some 17, none, .fadr t0 [false], [.t 4]⟩,
  ⟨some 18, none, .load tI, [.t 17]⟩,
  ⟨some 19, none, .call 8008 (some 20) [.v .bool] false, [.t 18]⟩,
  ⟨some 20, none, .not, [.t 19]⟩,
  ⟨some 21, none, .mov, [.t 20]⟩,
  ⟨some 22, (some (21, false)), .fadr t0 [true], [.t 4]⟩,
  ⟨some 23, (some (21, false)), .load tI, [.t 22]⟩,
  ⟨some 24, (some (21, false)), .call 8028 (some 20) [.v .bool] false, [.t 23]⟩,
  ⟨some 25, (some (21, false)), .not, [.t 24]⟩,
  ⟨some 26, none, .pick, [.t 21, .bool true, .t 25]⟩])
 (.cond (.t 26) (.seq (.reg false [
  ⟨some 2, none, .mov, [.int .i64 3]⟩])
 (.ret)) (.skip)))))
 (.reg false [
  ⟨some 27, none, .bin .add tI, [.t 13, .int .i64 1]⟩,
  ⟨some 13, none, .mov, [.t 27]⟩])))))))
 (.seq (.seq (.reg false [
  ⟨some 28, none, .mov, [.t 0]⟩,
  ⟨some 29, none, .call 11004 (some 21) [.v .bool] false, [.t 28]⟩,
  ⟨some 30, none, .not, [.t 29]⟩])
 (.cond (.t 30) (.seq (.reg false [
  ⟨some 2, none, .mov, [.int .i64 11]⟩])
 (.ret)) (.skip)))
 (.seq (.reg false [
  ⟨some 2, none, .mov, [.int .i64 0]⟩])
 (.ret))))))⟩
def cf_polygon_turn : Fn := ⟨3, 30, [.t 6], [.v tI], none,
 .seq (.reg false [
  ⟨some 3, none, .box 0 t0, [.t 0]⟩,
  ⟨some 4, none, .box 4 t0, [.t 1]⟩,
  ⟨some 5, none, .box 8 t0, [.t 2]⟩,
  ⟨some 6, none, .mov, [.int .i64 0]⟩])
 (.seq (.reg false [
  ⟨some 7, none, .fadr t0 [false], [.t 4]⟩,
  ⟨some 8, none, .load tI, [.t 7]⟩,
  ⟨some 9, none, .fadr t0 [false], [.t 3]⟩,
  ⟨some 10, none, .load tI, [.t 9]⟩,
  ⟨some 11, none, .bin .sub tI, [.t 8, .t 10]⟩,
  ⟨some 12, none, .fadr t0 [true], [.t 5]⟩,
  ⟨some 13, none, .load tI, [.t 12]⟩,
  ⟨some 14, none, .fadr t0 [true], [.t 4]⟩,
  ⟨some 15, none, .load tI, [.t 14]⟩,
  ⟨some 16, none, .bin .sub tI, [.t 13, .t 15]⟩,
  ⟨some 17, none, .bin .mul tI, [.t 11, .t 16]⟩,
  ⟨some 18, none, .fadr t0 [true], [.t 4]⟩,
  ⟨some 19, none, .load tI, [.t 18]⟩,
  ⟨some 20, none, .fadr t0 [true], [.t 3]⟩,
  ⟨some 21, none, .load tI, [.t 20]⟩,
  ⟨some 22, none, .bin .sub tI, [.t 19, .t 21]⟩,
  ⟨some 23, none, .fadr t0 [false], [.t 5]⟩,
  ⟨some 24, none, .load tI, [.t 23]⟩,
  ⟨some 25, none, .fadr t0 [false], [.t 4]⟩,
  ⟨some 26, none, .load tI, [.t 25]⟩,
  ⟨some 27, none, .bin .sub tI, [.t 24, .t 26]⟩,
  ⟨some 28, none, .bin .mul tI, [.t 22, .t 27]⟩,
  ⟨some 29, none, .bin .sub tI, [.t 17, .t 28]⟩,
  ⟨some 6, none, .mov, [.t 29]⟩])
 (.ret))⟩
def cf_polygon_area : Fn := ⟨1, 33, [.t 2], [.v tI], none,
 .seq (.reg false [
  ⟨some 2, none, .mov, [.int .i64 0]⟩])
 (.seq (.reg false [
  ⟨some 3, none, .mov, [.int .i64 0]⟩])
 (.seq (.seq (.reg false [
  ⟨some 6, none, .mov, [.t 0]⟩,
  ⟨some 7, none, .call 2004 (some 22) [.o t1] false, [.t 6]⟩,
  ⟨some 8, none, .len, [.t 7]⟩,
  ⟨some 9, none, .mov, [.int .i64 0]⟩])
 (.block 0 (.loop 100000 [3, 7, 8, 9] (.seq (.reg false [
  ⟨some 10, none, .bin .lss tI, [.t 9, .t 8]⟩])
 (.seq (.cond (.t 10) (.skip) (.exit 0))
 (.seq (.block 1 (.seq (.reg false [
  ⟨some 11, none, .iadr t1, [.t 7, .t 9]⟩,
  ⟨some 12, none, .load t1, [.t 11]⟩,
  ⟨some 5, none, .alloc 4008 t1, []⟩,
  ⟨none, none, .store t1, [.t 5, .t 12]⟩])
 (.reg false [
  ⟨some 13, none, .mov, [.t 3]⟩,
  ⟨some 14, none, .fadr t1 [true], [.t 5]⟩,
  ⟨some 15, none, .fadr t0 [false], [.t 14]⟩,
  ⟨some 16, none, .load tI, [.t 15]⟩,
  ⟨some 17, none, .fadr t1 [false], [.t 5]⟩,
  ⟨some 18, none, .fadr t0 [false], [.t 17]⟩,
  ⟨some 19, none, .load tI, [.t 18]⟩,
  ⟨some 20, none, .bin .sub tI, [.t 16, .t 19]⟩,
  ⟨some 21, none, .fadr t1 [false], [.t 5]⟩,
  ⟨some 22, none, .fadr t0 [true], [.t 21]⟩,
  ⟨some 23, none, .load tI, [.t 22]⟩,
  ⟨some 24, none, .fadr t1 [true], [.t 5]⟩,
  ⟨some 25, none, .fadr t0 [true], [.t 24]⟩,
  ⟨some 26, none, .load tI, [.t 25]⟩,
  ⟨some 27, none, .bin .add tI, [.t 23, .t 26]⟩,
  ⟨some 28, none, .bin .mul tI, [.t 20, .t 27]⟩,
  ⟨some 29, none, .bin .add tI, [.t 13, .t 28]⟩,
  ⟨some 3, none, .mov, [.t 29]⟩])))
 (.reg false [
  ⟨some 30, none, .bin .add tI, [.t 9, .int .i64 1]⟩,
  ⟨some 9, none, .mov, [.t 30]⟩])))))))
 (.seq (.reg false [
  ⟨some 31, none, .mov, [.t 3]⟩,
  ⟨some 32, none, .neg .i64, [.t 31]⟩,
  ⟨some 2, none, .mov, [.t 32]⟩])
 (.ret))))⟩
def cf_slices_Reverse_api_Spot_api_Spot : Fn := ⟨1, 28, [], [], none,
 .seq (.reg false [
  ⟨some 4, none, .mov, [.t 0]⟩,
  ⟨some 5, none, .len, [.t 4]⟩,
  ⟨some 6, none, .bin .sub tI, [.t 5, .int .i64 1]⟩,
  ⟨some 2, none, .mov, [.int .i64 0]⟩,
  ⟨some 3, none, .mov, [.t 6]⟩])
 (.block 0 (.loop 100000 [0, 2, 3] (.seq (.seq (.reg false [
  ⟨some 7, none, .mov, [.t 2]⟩,
  ⟨some 8, none, .mov, [.t 3]⟩,
  ⟨some 9, none, .bin .lss tI, [.t 7, .t 8]⟩])
 (.cond (.t 9) (.skip) (.exit 0)))
 (.seq (.block 1 (.reg true [
  ⟨some 14, none, .mov, [.t 0]⟩,
  ⟨some 15, none, .mov, [.t 2]⟩,
  ⟨some 16, none, .mov, [.t 0]⟩,
  ⟨some 17, none, .mov, [.t 3]⟩,
  ⟨some 18, none, .mov, [.t 0]⟩,
  ⟨some 19, none, .mov, [.t 3]⟩,
  ⟨some 20, none, .iadr t0, [.t 18, .t 19]⟩,
  ⟨some 21, none, .load t0, [.t 20]⟩,
  ⟨some 22, none, .mov, [.t 0]⟩,
  ⟨some 23, none, .mov, [.t 2]⟩,
  ⟨some 24, none, .iadr t0, [.t 22, .t 23]⟩,
  ⟨some 25, none, .load t0, [.t 24]⟩,
  ⟨some 26, none, .iadr t0, [.t 14, .t 15]⟩,
  ⟨none, none, .store t0, [.t 26, .t 21]⟩,
  ⟨some 27, none, .iadr t0, [.t 16, .t 17]⟩,
  ⟨none, none, .store t0, [.t 27, .t 25]⟩]))
 (.reg false [
  ⟨some 10, none, .mov, [.t 2]⟩,
  ⟨some 11, none, .bin .add tI, [.t 10, .int .i64 1]⟩,
  ⟨some 12, none, .mov, [.t 3]⟩,
  ⟨some 13, none, .bin .sub tI, [.t 12, .int .i64 1]⟩,
  ⟨some 2, none, .mov, [.t 11]⟩,
  ⟨some 3, none, .mov, [.t 13]⟩])))))⟩
def cf_slices_MinFunc_api_Spot_api_Spot : Fn := ⟨2, 33, [.c 4 t0], [.v t0], none,
 .seq (.reg false [
  ⟨some 4, none, .alloc 0 t0, []⟩])
 (.seq (.seq (.reg false [
  ⟨some 7, none, .mov, [.t 0]⟩,
  ⟨some 8, none, .len, [.t 7]⟩,
  ⟨some 9, none, .bin .lss tI, [.t 8, .int .i64 1]⟩])
 (.cond (.t 9) (.reg false [
  ⟨some 10, none, .cap, []⟩,
  ⟨none, none, .cap, []⟩]) (.skip)))
 (.seq (.reg false [
  ⟨some 11, none, .mov, [.t 0]⟩,
  ⟨some 12, none, .iadr t0, [.t 11, .int .i64 0]⟩,
  ⟨some 13, none, .load t0, [.t 12]⟩,
  ⟨some 5, none, .alloc 3012 t0, []⟩,
  ⟨none, none, .store t0, [.t 5, .t 13]⟩])
 (.seq (.seq (.reg false [
  ⟨some 6, none, .mov, [.int .i64 1]⟩])
 (.block 0 (.loop 100000 [0, 1, 4, 5, 6] (.seq (.seq (.reg false [
  ⟨some 14, none, .mov, [.t 6]⟩,
  ⟨some 15, none, .mov, [.t 0]⟩,
  ⟨some 16, none, .len, [.t 15]⟩,
  ⟨some 17, none, .bin .lss tI, [.t 14, .t 16]⟩])
 (.cond (.t 17) (.skip) (.exit 0)))
 (.seq (.block 1 (.seq (.reg true [
  ⟨some 20, none, .mov, [.t 1]⟩,
  ⟨some 21, none, .mov, [.t 0]⟩,
  ⟨some 22, none, .mov, [.t 6]⟩,
  ⟨some 23, none, .iadr t0, [.t 21, .t 22]⟩,
  ⟨some 24, none, .load t0, [.t 23]⟩,
  ⟨some 25, none, .load t0, [.t 5]⟩,
  ⟨some 26, none, .call 7024 none [.v tI] false, [.t 20, .t 24, .t 25]⟩,
  ⟨some 27, none, .bin .lss tI, [.t 26, .int .i64 0]⟩])
 (.cond (.t 27) (.reg false [
  ⟨some 28, none, .mov, [.t 0]⟩,
  ⟨some 29, none, .mov, [.t 6]⟩,
  ⟨some 30, none, .iadr t0, [.t 28, .t 29]⟩,
  ⟨some 31, none, .load t0, [.t 30]⟩,
  ⟨none, none, .store t0, [.t 5, .t 31]⟩]) (.skip))))
 (.reg false [
  ⟨some 18, none, .mov, [.t 6]⟩,
  ⟨some 19, none, .bin .add tI, [.t 18, .int .i64 1]⟩,
  ⟨some 6, none, .mov, [.t 19]⟩]))))))
 (.seq (.reg false [
  ⟨some 32, none, .load t0, [.t 5]⟩,
  ⟨none, none, .store t0, [.t 4, .t 32]⟩])
 (.ret)))))⟩
def cf_polygon_order : Fn := ⟨2, 29, [.t 4], [.v tI], none,
 .seq (.reg false [
  ⟨some 2, none, .box 0 t0, [.t 0]⟩,
  ⟨some 3, none, .box 4 t0, [.t 1]⟩,
  ⟨some 4, none, .mov, [.int .i64 0]⟩])
 (.seq (.block 0 (.seq (.reg false [
  ⟨some 6, none, .load t0, [.t 2]⟩,
  ⟨some 7, none, .load t0, [.t 3]⟩,
  ⟨some 8, none, .bin .eql t0, [.t 6, .t 7]⟩,
  ⟨some 5, none, .mov, [.t 8]⟩])
 (.cond (.t 5) (.seq (.reg false [
  ⟨some 4, none, .mov, [.int .i64 0]⟩])
 (.ret)) (.seq (.reg false [
  ⟨some 10, none, .fadr t0 [false], [.t 2]⟩,
  ⟨some 11, none, .load tI, [.t 10]⟩,
  ⟨some 12, none, .fadr t0 [false], [.t 3]⟩,
  ⟨some 13, none, .load tI, [.t 12]⟩,
  ⟨some 14, none, .bin .lss tI, [.t 11, .t 13]⟩,
  ⟨some 15, none, .mov, [.t 14]⟩,
  ⟨some 16, (some (15, false)), .fadr t0 [false], [.t 2]⟩,
  ⟨some 17, (some (15, false)), .load tI, [.t 16]⟩,
  ⟨some 18, (some (15, false)), .fadr t0 [false], [.t 3]⟩,
  ⟨some 19, (some (15, false)), .load tI, [.t 18]⟩,
  ⟨some 20, (some (15, false)), .bin .eql tI, [.t 17, .t 19]⟩,
  ⟨some 21, (some (15, false)), .mov, [.t 20]⟩,
  ⟨some 22, (some (21, true)), .fadr t0 [true], [.t 2]⟩,
  ⟨some 23, (some (21, true)), .load tI, [.t 22]⟩,
  ⟨some 24, (some (21, true)), .fadr t0 [true], [.t 3]⟩,
  ⟨some 25, (some (21, true)), .load tI, [.t 24]⟩,
  ⟨some 26, (some (21, true)), .bin .lss tI, [.t 23, .t 25]⟩,
  ⟨some 27, (some (15, false)), .pick, [.t 21, .t 26, .bool false]⟩,
  ⟨some 28, none, .pick, [.t 15, .bool true, .t 27]⟩,
  ⟨some 9, none, .mov, [.t 28]⟩])
 (.cond (.t 9) (.seq (.reg false [
  ⟨some 4, none, .mov, [.int .i64 (-1)]⟩])
 (.ret)) (.skip))))))
 (.seq (.reg false [
  ⟨some 4, none, .mov, [.int .i64 1]⟩])
 (.ret)))⟩
def cf_slices_Index_api_Spot_api_Spot : Fn := ⟨2, 19, [.t 4], [.v tI], none,
 .seq (.reg false [
  ⟨some 3, none, .box 0 t0, [.t 1]⟩,
  ⟨some 4, none, .mov, [.int .i64 0]⟩])
 (.seq (.seq (.reg false [
  ⟨some 6, none, .mov, [.t 0]⟩,
  ⟨some 7, none, .len, [.t 6]⟩,
  ⟨some 8, none, .mov, [.int .i64 0]⟩])
 (.block 0 (.loop 100000 [0, 3, 7, 8] (.seq (.reg false [
  ⟨some 9, none, .bin .lss tI, [.t 8, .t 7]⟩])
 (.seq (.cond (.t 9) (.skip) (.exit 0))
 (.seq (.block 1 (.seq (.reg false [
  ⟨some 10, none, .mov, [.t 8]⟩,
  ⟨some 5, none, .mov, [.t 10]⟩])
 (.seq (.reg true [
  ⟨some 11, none, .load t0, [.t 3]⟩,
  ⟨some 12, none, .mov, [.t 0]⟩,
  ⟨some 13, none, .mov, [.t 5]⟩,
  ⟨some 14, none, .iadr t0, [.t 12, .t 13]⟩,
  ⟨some 15, none, .load t0, [.t 14]⟩,
  ⟨some 16, none, .bin .eql t0, [.t 11, .t 15]⟩])
 (.cond (.t 16) (.seq (.reg false [
  ⟨some 17, none, .mov, [.t 5]⟩,
  ⟨some 4, none, .mov, [.t 17]⟩])
 (.ret)) (.skip)))))
 (.reg false [
  ⟨some 18, none, .bin .add tI, [.t 8, .int .i64 1]⟩,
  ⟨some 8, none, .mov, [.t 18]⟩])))))))
 (.seq (.reg false [
  ⟨some 4, none, .mov, [.int .i64 (-1)]⟩])
 (.ret)))⟩
def cf_polygon_inside : Fn := ⟨1, 9, [.t 2], [.v .bool], none,
 .seq (.reg false [
  ⟨some 2, none, .mov, [.bool false]⟩])
 (.seq (.reg false [
  ⟨some 3, none, .mov, [.t 0]⟩,
  ⟨some 4, none, .bin .geq tI, [.t 3, .int .i64 (-1048576)]⟩,
  ⟨some 5, none, .mov, [.t 4]⟩,
  ⟨some 6, (some (5, true)), .mov, [.t 0]⟩,
  ⟨some 7, (some (5, true)), .bin .leq tI, [.t 6, .int .i64 1048576]⟩,
  ⟨some 8, none, .pick, [.t 5, .t 7, .bool false]⟩,
  ⟨some 2, none, .mov, [.t 8]⟩])
 (.ret))⟩
def cf_polygon_simple : Fn := ⟨1, 64, [.t 2], [.v .bool], none,
 .seq (.reg false [
  ⟨some 2, none, .mov, [.bool false]⟩])
 (.seq (.reg false [
  ⟨some 8, none, .mov, [.t 0]⟩,
  ⟨some 9, none, .call 1004 (some 22) [.o t1] false, [.t 8]⟩,
  ⟨some 3, none, .mov, [.t 9]⟩])
 (.seq (.seq (.reg false [
  ⟨some 10, none, .mov, [.t 3]⟩,
  ⟨some 11, none, .len, [.t 10]⟩,
  ⟨some 12, none, .mov, [.int .i64 0]⟩])
 (.block 0 (.loop 100000 [3, 10, 11, 12] (.seq (.reg false [
  ⟨some 13, none, .bin .lss tI, [.t 12, .t 11]⟩])
 (.seq (.cond (.t 13) (.skip) (.exit 0))
 (.seq (.block 1 (.seq (.reg false [
  ⟨some 14, none, .mov, [.t 12]⟩,
  ⟨some 15, none, .iadr t1, [.t 10, .t 12]⟩,
  ⟨some 16, none, .load t1, [.t 15]⟩,
  ⟨some 5, none, .alloc 4012 t1, []⟩,
  ⟨some 4, none, .mov, [.t 14]⟩,
  ⟨none, none, .store t1, [.t 5, .t 16]⟩])
 (.seq (.seq (.reg false [
  ⟨some 17, none, .fadr t1 [false], [.t 5]⟩,
  ⟨some 18, none, .load t0, [.t 17]⟩,
  ⟨some 19, none, .fadr t1 [true], [.t 5]⟩,
  ⟨some 20, none, .load t0, [.t 19]⟩,
  ⟨some 21, none, .bin .eql t0, [.t 18, .t 20]⟩])
 (.cond (.t 21) (.seq (.reg false [
  ⟨some 2, none, .mov, [.bool false]⟩])
 (.ret)) (.skip)))
 (.seq (.reg false [
  ⟨some 22, none, .mov, [.t 3]⟩,
  ⟨some 23, none, .mov, [.t 4]⟩,
  ⟨some 24, none, .bin .add tI, [.t 23, .int .i64 1]⟩,
  ⟨some 25, none, .mov, [.t 3]⟩,
  ⟨some 26, none, .len, [.t 25]⟩,
  ⟨some 27, none, .bin .rem tI, [.t 24, .t 26]⟩,
  ⟨some 28, none, .iadr t1, [.t 22, .t 27]⟩,
  ⟨some 29, none, .load t1, [.t 28]⟩,
  ⟨some 6, none, .alloc 7032 t1, []⟩,
  ⟨none, none, .store t1, [.t 6, .t 29]⟩])
 (.seq (.seq (.reg false [
  ⟨some 30, none, .load t1, [.t 5]⟩,
  ⟨some 31, none, .fadr t1 [true], [.t 6]⟩,
  ⟨some 32, none, .load t0, [.t 31]⟩,
  ⟨some 33, none, .call 8012 (some 23) [.v .bool] false, [.t 30, .t 32]⟩,
  ⟨some 34, none, .mov, [.t 33]⟩,
  ⟨some 35, (some (34, false)), .load t1, [.t 6]⟩,
  ⟨some 36, (some (34, false)), .fadr t1 [false], [.t 5]⟩,
  ⟨some 37, (some (34, false)), .load t0, [.t 36]⟩,
  ⟨some 38, (some (34, false)), .call 8032 (some 23) [.v .bool] false, [.t 35, .t 37]⟩,
  ⟨some 39, none, .pick, [.t 34, .bool true, .t 38]⟩])
 (.cond (.t 39) (.seq (.reg false [
  ⟨some 2, none, .mov, [.bool false]⟩])
 (.ret)) (.skip)))
 (.seq (.reg false [
  ⟨some 40, none, .mov, [.t 4]⟩,
  ⟨some 41, none, .bin .add tI, [.t 40, .int .i64 2]⟩,
  ⟨some 7, none, .mov, [.t 41]⟩])
 (.block 2 (.loop 200000 [3, 4, 5, 7, 10, 11, 12] (.seq (.seq (.reg false [
  ⟨some 42, none, .mov, [.t 7]⟩,
  ⟨some 43, none, .mov, [.t 3]⟩,
  ⟨some 44, none, .len, [.t 43]⟩,
  ⟨some 45, none, .bin .lss tI, [.t 42, .t 44]⟩])
 (.cond (.t 45) (.skip) (.exit 2)))
 (.seq (.block 3 (.seq (.seq (.reg false [
  ⟨some 48, none, .mov, [.t 4]⟩,
  ⟨some 49, none, .bin .eql tI, [.t 48, .int .i64 0]⟩,
  ⟨some 50, none, .mov, [.t 49]⟩,
  ⟨some 51, (some (50, true)), .mov, [.t 7]⟩,
  ⟨some 52, (some (50, true)), .mov, [.t 3]⟩,
  ⟨some 53, (some (50, true)), .len, [.t 52]⟩,
  ⟨some 54, (some (50, true)), .bin .sub tI, [.t 53, .int .i64 1]⟩,
  ⟨some 55, (some (50, true)), .bin .eql tI, [.t 51, .t 54]⟩,
  ⟨some 56, none, .pick, [.t 50, .t 55, .bool false]⟩])
 (.cond (.t 56) (.exit 3) (.skip)))
 (.seq (.reg true [
  ⟨some 57, none, .load t1, [.t 5]⟩,
  ⟨some 58, none, .mov, [.t 3]⟩,
  ⟨some 59, none, .mov, [.t 7]⟩,
  ⟨some 60, none, .iadr t1, [.t 58, .t 59]⟩,
  ⟨some 61, none, .load t1, [.t 60]⟩,
  ⟨some 62, none, .call 14020 (some 24) [.v .bool] false, [.t 57, .t 61]⟩])
 (.cond (.t 62) (.seq (.reg false [
  ⟨some 2, none, .mov, [.bool false]⟩])
 (.ret)) (.skip)))))
 (.reg false [
  ⟨some 46, none, .mov, [.t 7]⟩,
  ⟨some 47, none, .bin .add tI, [.t 46, .int .i64 1]⟩,
  ⟨some 7, none, .mov, [.t 47]⟩])))))))))))
 (.reg false [
  ⟨some 63, none, .bin .add tI, [.t 12, .int .i64 1]⟩,
  ⟨some 12, none, .mov, [.t 63]⟩])))))))
 (.seq (.reg false [
  ⟨some 2, none, .mov, [.bool true]⟩])
 (.ret))))⟩
def cf_polygon_sides : Fn := ⟨1, 31, [.t 2], [.o t1], none,
 .seq (.reg false [
  ⟨some 2, none, .own0 0 t1, []⟩])
 (.seq (.reg false [
  ⟨some 6, none, .mov, [.t 0]⟩,
  ⟨some 7, none, .len, [.t 6]⟩,
  ⟨some 8, none, .mksl 1008 t1 8796093022208, [.t 7, .t 7]⟩,
  ⟨some 3, none, .mov, [.t 8]⟩])
 (.seq (.seq (.reg false [
  ⟨some 9, none, .mov, [.t 0]⟩,
  ⟨some 10, none, .len, [.t 9]⟩,
  ⟨some 11, none, .mov, [.int .i64 0]⟩])
 (.block 0 (.loop 100000 [0, 3, 9, 10, 11] (.seq (.reg false [
  ⟨some 12, none, .bin .lss tI, [.t 11, .t 10]⟩])
 (.seq (.cond (.t 12) (.skip) (.exit 0))
 (.seq (.block 1 (.seq (.reg false [
  ⟨some 13, none, .mov, [.t 11]⟩,
  ⟨some 14, none, .iadr t0, [.t 9, .t 11]⟩,
  ⟨some 15, none, .load t0, [.t 14]⟩,
  ⟨some 5, none, .alloc 4012 t0, []⟩,
  ⟨some 4, none, .mov, [.t 13]⟩,
  ⟨none, none, .store t0, [.t 5, .t 15]⟩])
 (.reg true [
  ⟨some 16, none, .mov, [.t 3]⟩,
  ⟨some 17, none, .mov, [.t 4]⟩,
  ⟨some 18, none, .load t0, [.t 5]⟩,
  ⟨some 19, none, .mov, [.t 0]⟩,
  ⟨some 20, none, .mov, [.t 4]⟩,
  ⟨some 21, none, .bin .add tI, [.t 20, .int .i64 1]⟩,
  ⟨some 22, none, .mov, [.t 0]⟩,
  ⟨some 23, none, .len, [.t 22]⟩,
  ⟨some 24, none, .bin .rem tI, [.t 21, .t 23]⟩,
  ⟨some 25, none, .iadr t0, [.t 19, .t 24]⟩,
  ⟨some 26, none, .load t0, [.t 25]⟩,
  ⟨some 27, none, .build t1 [([false], t0), ([true], t0)], [.t 18, .t 26]⟩,
  ⟨some 28, none, .iadr t1, [.t 16, .t 17]⟩,
  ⟨none, none, .store t1, [.t 28, .t 27]⟩])))
 (.reg false [
  ⟨some 29, none, .bin .add tI, [.t 11, .int .i64 1]⟩,
  ⟨some 11, none, .mov, [.t 29]⟩])))))))
 (.seq (.reg false [
  ⟨some 30, none, .mov, [.t 3]⟩,
  ⟨some 2, none, .mov, [.t 30]⟩])
 (.ret))))⟩
def cf_polygon_side_holds : Fn := ⟨2, 34, [.t 4], [.v .bool], none,
 .seq (.reg false [
  ⟨some 2, none, .box 0 t1, [.t 0]⟩,
  ⟨some 3, none, .box 4 t0, [.t 1]⟩,
  ⟨some 4, none, .mov, [.bool false]⟩])
 (.seq (.reg false [
  ⟨some 5, none, .fadr t1 [false], [.t 2]⟩,
  ⟨some 6, none, .load t0, [.t 5]⟩,
  ⟨some 7, none, .fadr t1 [true], [.t 2]⟩,
  ⟨some 8, none, .load t0, [.t 7]⟩,
  ⟨some 9, none, .load t0, [.t 3]⟩,
  ⟨some 10, none, .call 1020 (some 14) [.v tI] false, [.t 6, .t 8, .t 9]⟩,
  ⟨some 11, none, .bin .eql tI, [.t 10, .int .i64 0]⟩,
  ⟨some 12, none, .mov, [.t 11]⟩,
  ⟨some 13, (some (12, true)), .fadr t0 [false], [.t 3]⟩,
  ⟨some 14, (some (12, true)), .load tI, [.t 13]⟩,
  ⟨some 15, (some (12, true)), .fadr t1 [false], [.t 2]⟩,
  ⟨some 16, (some (12, true)), .fadr t0 [false], [.t 15]⟩,
  ⟨some 17, (some (12, true)), .load tI, [.t 16]⟩,
  ⟨some 18, (some (12, true)), .fadr t1 [true], [.t 2]⟩,
  ⟨some 19, (some (12, true)), .fadr t0 [false], [.t 18]⟩,
  ⟨some 20, (some (12, true)), .load tI, [.t 19]⟩,
  ⟨some 21, (some (12, true)), .call 1064 (some 25) [.v .bool] false, [.t 14, .t 17, .t 20]⟩,
  ⟨some 22, none, .pick, [.t 12, .t 21, .bool false]⟩,
  ⟨some 23, none, .mov, [.t 22]⟩,
  ⟨some 24, (some (23, true)), .fadr t0 [true], [.t 3]⟩,
  ⟨some 25, (some (23, true)), .load tI, [.t 24]⟩,
  ⟨some 26, (some (23, true)), .fadr t1 [false], [.t 2]⟩,
  ⟨some 27, (some (23, true)), .fadr t0 [true], [.t 26]⟩,
  ⟨some 28, (some (23, true)), .load tI, [.t 27]⟩,
  ⟨some 29, (some (23, true)), .fadr t1 [true], [.t 2]⟩,
  ⟨some 30, (some (23, true)), .fadr t0 [true], [.t 29]⟩,
  ⟨some 31, (some (23, true)), .load tI, [.t 30]⟩,
  ⟨some 32, (some (23, true)), .call 1108 (some 25) [.v .bool] false, [.t 25, .t 28, .t 31]⟩,
  ⟨some 33, none, .pick, [.t 23, .t 32, .bool false]⟩,
  ⟨some 4, none, .mov, [.t 33]⟩])
 (.ret))⟩
def cf_polygon_side_meets : Fn := ⟨2, 43, [.t 4], [.v .bool], none,
 .seq (.reg false [
  ⟨some 2, none, .box 0 t1, [.t 0]⟩,
  ⟨some 3, none, .box 4 t1, [.t 1]⟩,
  ⟨some 4, none, .mov, [.bool false]⟩])
 (.seq (.reg false [
  ⟨some 5, none, .load t1, [.t 2]⟩,
  ⟨some 6, none, .fadr t1 [false], [.t 3]⟩,
  ⟨some 7, none, .load t0, [.t 6]⟩,
  ⟨some 8, none, .call 1012 (some 23) [.v .bool] false, [.t 5, .t 7]⟩,
  ⟨some 9, none, .mov, [.t 8]⟩,
  ⟨some 10, (some (9, false)), .load t1, [.t 2]⟩,
  ⟨some 11, (some (9, false)), .fadr t1 [true], [.t 3]⟩,
  ⟨some 12, (some (9, false)), .load t0, [.t 11]⟩,
  ⟨some 13, (some (9, false)), .call 1032 (some 23) [.v .bool] false, [.t 10, .t 12]⟩,
  ⟨some 14, none, .pick, [.t 9, .bool true, .t 13]⟩,
  ⟨some 15, none, .mov, [.t 14]⟩,
  ⟨some 16, (some (15, false)), .load t1, [.t 3]⟩,
  ⟨some 17, (some (15, false)), .fadr t1 [false], [.t 2]⟩,
  ⟨some 18, (some (15, false)), .load t0, [.t 17]⟩,
  ⟨some 19, (some (15, false)), .call 1056 (some 23) [.v .bool] false, [.t 16, .t 18]⟩,
  ⟨some 20, none, .pick, [.t 15, .bool true, .t 19]⟩,
  ⟨some 21, none, .mov, [.t 20]⟩,
  ⟨some 22, (some (21, false)), .load t1, [.t 3]⟩,
  ⟨some 23, (some (21, false)), .fadr t1 [true], [.t 2]⟩,
  ⟨some 24, (some (21, false)), .load t0, [.t 23]⟩,
  ⟨some 25, (some (21, false)), .call 1080 (some 23) [.v .bool] false, [.t 22, .t 24]⟩,
  ⟨some 26, none, .pick, [.t 21, .bool true, .t 25]⟩,
  ⟨some 27, none, .mov, [.t 26]⟩,
  ⟨some 28, (some (27, false)), .load t1, [.t 2]⟩,
  ⟨some 29, (some (27, false)), .fadr t1 [false], [.t 3]⟩,
  ⟨some 30, (some (27, false)), .load t0, [.t 29]⟩,
  ⟨some 31, (some (27, false)), .fadr t1 [true], [.t 3]⟩,
  ⟨some 32, (some (27, false)), .load t0, [.t 31]⟩,
  ⟨some 33, (some (27, false)), .call 1112 (some 26) [.v .bool] false, [.t 28, .t 30, .t 32]⟩,
  ⟨some 34, (some (27, false)), .mov, [.t 33]⟩,
  ⟨some 35, (some (34, true)), .load t1, [.t 3]⟩,
  ⟨some 36, (some (34, true)), .fadr t1 [false], [.t 2]⟩,
  ⟨some 37, (some (34, true)), .load t0, [.t 36]⟩,
  ⟨some 38, (some (34, true)), .fadr t1 [true], [.t 2]⟩,
  ⟨some 39, (some (34, true)), .load t0, [.t 38]⟩,
  ⟨some 40, (some (34, true)), .call 1140 (some 26) [.v .bool] false, [.t 35, .t 37, .t 39]⟩,
  ⟨some 41, (some (27, false)), .pick, [.t 34, .t 40, .bool false]⟩,
  ⟨some 42, none, .pick, [.t 27, .bool true, .t 41]⟩,
  ⟨some 4, none, .mov, [.t 42]⟩])
 (.ret))⟩
def cf_polygon_within : Fn := ⟨3, 19, [.t 6], [.v .bool], none,
 .seq (.reg false [
  ⟨some 6, none, .mov, [.bool false]⟩])
 (.seq (.reg false [
  ⟨some 7, none, .mov, [.t 1]⟩,
  ⟨some 8, none, .mov, [.t 2]⟩,
  ⟨some 9, none, .mm false .i64, [.t 7, .t 8]⟩,
  ⟨some 10, none, .mov, [.t 0]⟩,
  ⟨some 11, none, .bin .leq tI, [.t 9, .t 10]⟩,
  ⟨some 12, none, .mov, [.t 11]⟩,
  ⟨some 13, (some (12, true)), .mov, [.t 0]⟩,
  ⟨some 14, (some (12, true)), .mov, [.t 1]⟩,
  ⟨some 15, (some (12, true)), .mov, [.t 2]⟩,
  ⟨some 16, (some (12, true)), .mm true .i64, [.t 14, .t 15]⟩,
  ⟨some 17, (some (12, true)), .bin .leq tI, [.t 13, .t 16]⟩,
  ⟨some 18, none, .pick, [.t 12, .t 17, .bool false]⟩,
  ⟨some 6, none, .mov, [.t 18]⟩])
 (.ret))⟩
def cf_polygon_side_divides : Fn := ⟨3, 35, [.t 6], [.v .bool], none,
 .seq (.reg false [
  ⟨some 3, none, .box 0 t1, [.t 0]⟩,
  ⟨some 4, none, .box 4 t0, [.t 1]⟩,
  ⟨some 5, none, .box 8 t0, [.t 2]⟩,
  ⟨some 6, none, .mov, [.bool false]⟩])
 (.seq (.reg true [
  ⟨some 9, none, .fadr t1 [false], [.t 3]⟩,
  ⟨some 10, none, .load t0, [.t 9]⟩,
  ⟨some 11, none, .fadr t1 [true], [.t 3]⟩,
  ⟨some 12, none, .load t0, [.t 11]⟩,
  ⟨some 13, none, .load t0, [.t 4]⟩,
  ⟨some 14, none, .call 1020 (some 14) [.v tI] false, [.t 10, .t 12, .t 13]⟩,
  ⟨some 15, none, .fadr t1 [false], [.t 3]⟩,
  ⟨some 16, none, .load t0, [.t 15]⟩,
  ⟨some 17, none, .fadr t1 [true], [.t 3]⟩,
  ⟨some 18, none, .load t0, [.t 17]⟩,
  ⟨some 19, none, .load t0, [.t 5]⟩,
  ⟨some 20, none, .call 1044 (some 14) [.v tI] false, [.t 16, .t 18, .t 19]⟩,
  ⟨some 7, none, .mov, [.t 14]⟩,
  ⟨some 8, none, .mov, [.t 20]⟩])
 (.seq (.reg false [
  ⟨some 21, none, .mov, [.t 7]⟩,
  ⟨some 22, none, .bin .lss tI, [.t 21, .int .i64 0]⟩,
  ⟨some 23, none, .mov, [.t 22]⟩,
  ⟨some 24, (some (23, true)), .mov, [.t 8]⟩,
  ⟨some 25, (some (23, true)), .bin .gtr tI, [.t 24, .int .i64 0]⟩,
  ⟨some 26, none, .pick, [.t 23, .t 25, .bool false]⟩,
  ⟨some 27, none, .mov, [.t 26]⟩,
  ⟨some 28, (some (27, false)), .mov, [.t 7]⟩,
  ⟨some 29, (some (27, false)), .bin .gtr tI, [.t 28, .int .i64 0]⟩,
  ⟨some 30, (some (27, false)), .mov, [.t 29]⟩,
  ⟨some 31, (some (30, true)), .mov, [.t 8]⟩,
  ⟨some 32, (some (30, true)), .bin .lss tI, [.t 31, .int .i64 0]⟩,
  ⟨some 33, (some (27, false)), .pick, [.t 30, .t 32, .bool false]⟩,
  ⟨some 34, none, .pick, [.t 27, .bool true, .t 33]⟩,
  ⟨some 6, none, .mov, [.t 34]⟩])
 (.ret)))⟩
def cf_triangle_cross : Fn := ⟨3, 30, [.t 6], [.v tI], none,
 .seq (.reg false [
  ⟨some 3, none, .box 0 t0, [.t 0]⟩,
  ⟨some 4, none, .box 4 t0, [.t 1]⟩,
  ⟨some 5, none, .box 8 t0, [.t 2]⟩,
  ⟨some 6, none, .mov, [.int .i64 0]⟩])
 (.seq (.reg false [
  ⟨some 7, none, .fadr t0 [false], [.t 4]⟩,
  ⟨some 8, none, .load tI, [.t 7]⟩,
  ⟨some 9, none, .fadr t0 [false], [.t 3]⟩,
  ⟨some 10, none, .load tI, [.t 9]⟩,
  ⟨some 11, none, .bin .sub tI, [.t 8, .t 10]⟩,
  ⟨some 12, none, .fadr t0 [true], [.t 5]⟩,
  ⟨some 13, none, .load tI, [.t 12]⟩,
  ⟨some 14, none, .fadr t0 [true], [.t 3]⟩,
  ⟨some 15, none, .load tI, [.t 14]⟩,
  ⟨some 16, none, .bin .sub tI, [.t 13, .t 15]⟩,
  ⟨some 17, none, .bin .mul tI, [.t 11, .t 16]⟩,
  ⟨some 18, none, .fadr t0 [true], [.t 4]⟩,
  ⟨some 19, none, .load tI, [.t 18]⟩,
  ⟨some 20, none, .fadr t0 [true], [.t 3]⟩,
  ⟨some 21, none, .load tI, [.t 20]⟩,
  ⟨some 22, none, .bin .sub tI, [.t 19, .t 21]⟩,
  ⟨some 23, none, .fadr t0 [false], [.t 5]⟩,
  ⟨some 24, none, .load tI, [.t 23]⟩,
  ⟨some 25, none, .fadr t0 [false], [.t 3]⟩,
  ⟨some 26, none, .load tI, [.t 25]⟩,
  ⟨some 27, none, .bin .sub tI, [.t 24, .t 26]⟩,
  ⟨some 28, none, .bin .mul tI, [.t 22, .t 27]⟩,
  ⟨some 29, none, .bin .sub tI, [.t 17, .t 28]⟩,
  ⟨some 6, none, .mov, [.t 29]⟩])
 (.ret))⟩
def cf_triangle_covers : Fn := ⟨4, 28, [.t 8], [.v .bool], none,
 .seq (.reg false [
  ⟨some 4, none, .box 0 t0, [.t 0]⟩,
  ⟨some 5, none, .box 4 t0, [.t 1]⟩,
  ⟨some 6, none, .box 8 t0, [.t 2]⟩,
  ⟨some 7, none, .box 12 t0, [.t 3]⟩,
  ⟨some 8, none, .mov, [.bool false]⟩])
 (.seq (.reg false [
  ⟨some 9, none, .load t0, [.t 4]⟩,
  ⟨some 10, none, .load t0, [.t 5]⟩,
  ⟨some 11, none, .load t0, [.t 7]⟩,
  ⟨some 12, none, .call 1012 (some 27) [.v tI] false, [.t 9, .t 10, .t 11]⟩,
  ⟨some 13, none, .bin .geq tI, [.t 12, .int .i64 0]⟩,
  ⟨some 14, none, .mov, [.t 13]⟩,
  ⟨some 15, (some (14, true)), .load t0, [.t 5]⟩,
  ⟨some 16, (some (14, true)), .load t0, [.t 6]⟩,
  ⟨some 17, (some (14, true)), .load t0, [.t 7]⟩,
  ⟨some 18, (some (14, true)), .call 1036 (some 27) [.v tI] false, [.t 15, .t 16, .t 17]⟩,
  ⟨some 19, (some (14, true)), .bin .geq tI, [.t 18, .int .i64 0]⟩,
  ⟨some 20, none, .pick, [.t 14, .t 19, .bool false]⟩,
  ⟨some 21, none, .mov, [.t 20]⟩,
  ⟨some 22, (some (21, true)), .load t0, [.t 6]⟩,
  ⟨some 23, (some (21, true)), .load t0, [.t 4]⟩,
  ⟨some 24, (some (21, true)), .load t0, [.t 7]⟩,
  ⟨some 25, (some (21, true)), .call 1064 (some 27) [.v tI] false, [.t 22, .t 23, .t 24]⟩,
  ⟨some 26, (some (21, true)), .bin .geq tI, [.t 25, .int .i64 0]⟩,
  ⟨some 27, none, .pick, [.t 21, .t 26, .bool false]⟩,
  ⟨some 8, none, .mov, [.t 27]⟩])
 (.ret))⟩
def cf_garmentref11_Cross : Fn := ⟨3, 30, [.t 6], [.v tI], none,
 .seq (.reg false [
  ⟨some 3, none, .box 0 t0, [.t 0]⟩,
  ⟨some 4, none, .box 4 t0, [.t 1]⟩,
  ⟨some 5, none, .box 8 t0, [.t 2]⟩,
  ⟨some 6, none, .mov, [.int .i64 0]⟩])
 (.seq (.reg false [
  ⟨some 7, none, .fadr t0 [false], [.t 4]⟩,
  ⟨some 8, none, .load tI, [.t 7]⟩,
  ⟨some 9, none, .fadr t0 [false], [.t 3]⟩,
  ⟨some 10, none, .load tI, [.t 9]⟩,
  ⟨some 11, none, .bin .sub tI, [.t 8, .t 10]⟩,
  ⟨some 12, none, .fadr t0 [true], [.t 5]⟩,
  ⟨some 13, none, .load tI, [.t 12]⟩,
  ⟨some 14, none, .fadr t0 [true], [.t 3]⟩,
  ⟨some 15, none, .load tI, [.t 14]⟩,
  ⟨some 16, none, .bin .sub tI, [.t 13, .t 15]⟩,
  ⟨some 17, none, .bin .mul tI, [.t 11, .t 16]⟩,
  ⟨some 18, none, .fadr t0 [true], [.t 4]⟩,
  ⟨some 19, none, .load tI, [.t 18]⟩,
  ⟨some 20, none, .fadr t0 [true], [.t 3]⟩,
  ⟨some 21, none, .load tI, [.t 20]⟩,
  ⟨some 22, none, .bin .sub tI, [.t 19, .t 21]⟩,
  ⟨some 23, none, .fadr t0 [false], [.t 5]⟩,
  ⟨some 24, none, .load tI, [.t 23]⟩,
  ⟨some 25, none, .fadr t0 [false], [.t 3]⟩,
  ⟨some 26, none, .load tI, [.t 25]⟩,
  ⟨some 27, none, .bin .sub tI, [.t 24, .t 26]⟩,
  ⟨some 28, none, .bin .mul tI, [.t 22, .t 27]⟩,
  ⟨some 29, none, .bin .sub tI, [.t 17, .t 28]⟩,
  ⟨some 6, none, .mov, [.t 29]⟩])
 (.ret))⟩
def cf_polygon_Box : Fn := ⟨1, 67, [.c 2 t8, .t 3], [.v t8, .v tI], none,
 .seq (.reg false [
  ⟨some 2, none, .alloc 0 t8, []⟩,
  ⟨some 3, none, .mov, [.int .i64 0]⟩])
 (.seq (.seq (.reg false [
  ⟨some 9, none, .mov, [.t 0]⟩,
  ⟨some 10, none, .call 1004 (some 13) [.v tI] false, [.t 9]⟩,
  ⟨some 4, none, .mov, [.t 10]⟩])
 (.seq (.reg false [
  ⟨some 11, none, .mov, [.t 4]⟩,
  ⟨some 12, none, .bin .neq tI, [.t 11, .int .i64 0]⟩])
 (.cond (.t 12) (.seq (.reg false [
  ⟨some 13, none, .build t8 [], []⟩,
  ⟨some 14, none, .mov, [.t 4]⟩,
  ⟨none, none, .store t8, [.t 2, .t 13]⟩,
  ⟨some 3, none, .mov, [.t 14]⟩])
 (.ret)) (.skip))))
 (.seq (.reg true [
  ⟨some 15, none, .mov, [.t 0]⟩,
  ⟨some 16, none, .iadr t0, [.t 15, .int .i64 0]⟩,
  ⟨some 17, none, .load t0, [.t 16]⟩,
  ⟨some 18, none, .mov, [.t 0]⟩,
  ⟨some 19, none, .iadr t0, [.t 18, .int .i64 0]⟩,
  ⟨some 20, none, .loadi t0, [.t 19]⟩,
  ⟨some 5, none, .alloc 4024 t0, []⟩,
  ⟨some 6, none, .alloc 4028 t0, []⟩,
  ⟨none, none, .store t0, [.t 5, .t 17]⟩,
  ⟨none, none, .store t0, [.t 6, .t 20]⟩])
 (.seq (.seq (.reg false [
  ⟨some 21, none, .mov, [.t 0]⟩,
  ⟨some 22, none, .len, [.t 21]⟩,
  ⟨some 23, none, .mov, [.int .i64 0]⟩])
 (.block 0 (.loop 100000 [2, 5, 6, 21, 22, 23] (.seq (.reg false [
  ⟨some 24, none, .bin .lss tI, [.t 23, .t 22]⟩])
 (.seq (.cond (.t 24) (.skip) (.exit 0))
 (.seq (.block 1 (.seq (.reg false [
  ⟨some 25, none, .iadr t0, [.t 21, .t 23]⟩,
  ⟨some 26, none, .load t0, [.t 25]⟩,
  ⟨some 8, none, .alloc 7008 t0, []⟩,
  ⟨none, none, .store t0, [.t 8, .t 26]⟩])
 (.seq (.reg true [
  ⟨some 27, none, .fadr t0 [false], [.t 5]⟩,
  ⟨some 28, none, .load tI, [.t 27]⟩,
  ⟨some 29, none, .fadr t0 [false], [.t 8]⟩,
  ⟨some 30, none, .load tI, [.t 29]⟩,
  ⟨some 31, none, .mm false .i64, [.t 28, .t 30]⟩,
  ⟨some 32, none, .fadr t0 [true], [.t 5]⟩,
  ⟨some 33, none, .load tI, [.t 32]⟩,
  ⟨some 34, none, .fadr t0 [true], [.t 8]⟩,
  ⟨some 35, none, .loadb tI, [.t 34, .t 8]⟩,
  ⟨some 36, none, .mm false .i64, [.t 33, .t 35]⟩,
  ⟨some 37, none, .fadr t0 [false], [.t 5]⟩,
  ⟨none, none, .storeb tI, [.t 37, .t 31, .t 8]⟩,
  ⟨some 38, none, .fadr t0 [true], [.t 5]⟩,
  ⟨none, none, .store tI, [.t 38, .t 36]⟩])
 (.reg true [
  ⟨some 39, none, .fadr t0 [false], [.t 6]⟩,
  ⟨some 40, none, .load tI, [.t 39]⟩,
  ⟨some 41, none, .fadr t0 [false], [.t 8]⟩,
  ⟨some 42, none, .load tI, [.t 41]⟩,
  ⟨some 43, none, .mm true .i64, [.t 40, .t 42]⟩,
  ⟨some 44, none, .fadr t0 [true], [.t 6]⟩,
  ⟨some 45, none, .load tI, [.t 44]⟩,
  ⟨some 46, none, .fadr t0 [true], [.t 8]⟩,
  ⟨some 47, none, .loadb tI, [.t 46, .t 8]⟩,
  ⟨some 48, none, .mm true .i64, [.t 45, .t 47]⟩,
  ⟨some 49, none, .fadr t0 [false], [.t 6]⟩,
  ⟨none, none, .storeb tI, [.t 49, .t 43, .t 8]⟩,
  ⟨some 50, none, .fadr t0 [true], [.t 6]⟩,
  ⟨none, none, .store tI, [.t 50, .t 48]⟩]))))
 (.reg false [
  ⟨some 51, none, .bin .add tI, [.t 23, .int .i64 1]⟩,
  ⟨some 23, none, .mov, [.t 51]⟩])))))))
 (.seq (.reg false [
  ⟨some 52, none, .fadr t0 [false], [.t 5]⟩,
  ⟨some 53, none, .load tI, [.t 52]⟩,
  ⟨some 54, none, .fadr t0 [true], [.t 5]⟩,
  ⟨some 55, none, .load tI, [.t 54]⟩,
  ⟨some 56, none, .fadr t0 [false], [.t 6]⟩,
  ⟨some 57, none, .load tI, [.t 56]⟩,
  ⟨some 58, none, .fadr t0 [false], [.t 5]⟩,
  ⟨some 59, none, .load tI, [.t 58]⟩,
  ⟨some 60, none, .bin .sub tI, [.t 57, .t 59]⟩,
  ⟨some 61, none, .fadr t0 [true], [.t 6]⟩,
  ⟨some 62, none, .load tI, [.t 61]⟩,
  ⟨some 63, none, .fadr t0 [true], [.t 5]⟩,
  ⟨some 64, none, .load tI, [.t 63]⟩,
  ⟨some 65, none, .bin .sub tI, [.t 62, .t 64]⟩,
  ⟨some 66, none, .build t8 [([false], tI), ([true, false], tI), ([true, true, false], tI), ([true, true, true], tI)], [.t 53, .t 55, .t 60, .t 65]⟩,
  ⟨none, none, .store t8, [.t 2, .t 66]⟩,
  ⟨some 3, none, .mov, [.int .i64 0]⟩])
 (.ret)))))⟩
def cf_garmentref11_Check : Fn := ⟨1, 25, [.t 2], [.v tI], none,
 .seq (.reg false [
  ⟨some 2, none, .mov, [.int .i64 0]⟩])
 (.seq (.seq (.reg false [
  ⟨some 4, none, .mov, [.t 0]⟩,
  ⟨some 5, none, .len, [.t 4]⟩,
  ⟨some 6, none, .bin .gtr tI, [.t 5, .int .i64 40]⟩])
 (.cond (.t 6) (.seq (.reg false [
  ⟨some 2, none, .mov, [.int .i64 5]⟩])
 (.ret)) (.skip)))
 (.seq (.seq (.reg false [
  ⟨some 7, none, .mov, [.t 0]⟩,
  ⟨some 8, none, .len, [.t 7]⟩,
  ⟨some 9, none, .bin .lss tI, [.t 8, .int .i64 3]⟩])
 (.cond (.t 9) (.seq (.reg false [
  ⟨some 2, none, .mov, [.int .i64 11]⟩])
 (.ret)) (.skip)))
 (.seq (.seq (.reg false [
  ⟨some 3, none, .mov, [.int .i64 0]⟩])
 (.block 0 (.loop 100000 [0, 3] (.seq (.seq (.reg false [
  ⟨some 10, none, .mov, [.t 3]⟩,
  ⟨some 11, none, .mov, [.t 0]⟩,
  ⟨some 12, none, .len, [.t 11]⟩,
  ⟨some 13, none, .bin .lss tI, [.t 10, .t 12]⟩])
 (.cond (.t 13) (.skip) (.exit 0)))
 (.seq (.block 1 (.seq (.reg false [
  ⟨some 16, none, .mov, [.t 0]⟩,
  ⟨some 17, none, .mov, [.t 3]⟩,
  ⟨some 18, none, .iadr t0, [.t 16, .t 17]⟩,
  ⟨some 19, none, .load t0, [.t 18]⟩,
  ⟨some 20, none, .call 8016 (some 68) [.v .bool] false, [.t 19, .int .i64 1048576]⟩,
  ⟨some 21, none, .not, [.t 20]⟩])
 (.cond (.t 21) (.seq (.reg false [
  ⟨some 2, none, .mov, [.int .i64 3]⟩])
 (.ret)) (.skip))))
 (.reg false [
  ⟨some 14, none, .mov, [.t 3]⟩,
  ⟨some 15, none, .bin .add tI, [.t 14, .int .i64 1]⟩,
  ⟨some 3, none, .mov, [.t 15]⟩]))))))
 (.seq (.seq (.reg false [
  ⟨some 22, none, .mov, [.t 0]⟩,
  ⟨some 23, none, .call 10004 (some 69) [.v .bool] false, [.t 22]⟩,
  ⟨some 24, none, .not, [.t 23]⟩])
 (.cond (.t 24) (.seq (.reg false [
  ⟨some 2, none, .mov, [.int .i64 11]⟩])
 (.ret)) (.skip)))
 (.seq (.reg false [
  ⟨some 2, none, .mov, [.int .i64 0]⟩])
 (.ret))))))⟩
def cf_garmentref11_Within : Fn := ⟨2, 29, [.t 4], [.v .bool], none,
 .seq (.reg false [
  ⟨some 2, none, .box 0 t0, [.t 0]⟩,
  ⟨some 4, none, .mov, [.bool false]⟩])
 (.seq (.reg false [
  ⟨some 5, none, .fadr t0 [false], [.t 2]⟩,
  ⟨some 6, none, .load tI, [.t 5]⟩,
  ⟨some 7, none, .mov, [.t 1]⟩,
  ⟨some 8, none, .neg .i64, [.t 7]⟩,
  ⟨some 9, none, .bin .geq tI, [.t 6, .t 8]⟩,
  ⟨some 10, none, .mov, [.t 9]⟩,
  ⟨some 11, (some (10, true)), .fadr t0 [false], [.t 2]⟩,
  ⟨some 12, (some (10, true)), .load tI, [.t 11]⟩,
  ⟨some 13, (some (10, true)), .mov, [.t 1]⟩,
  ⟨some 14, (some (10, true)), .bin .leq tI, [.t 12, .t 13]⟩,
  ⟨some 15, none, .pick, [.t 10, .t 14, .bool false]⟩,
  ⟨some 16, none, .mov, [.t 15]⟩,
  ⟨some 17, (some (16, true)), .fadr t0 [true], [.t 2]⟩,
  ⟨some 18, (some (16, true)), .load tI, [.t 17]⟩,
  ⟨some 19, (some (16, true)), .mov, [.t 1]⟩,
  ⟨some 20, (some (16, true)), .neg .i64, [.t 19]⟩,
  ⟨some 21, (some (16, true)), .bin .geq tI, [.t 18, .t 20]⟩,
  ⟨some 22, none, .pick, [.t 16, .t 21, .bool false]⟩,
  ⟨some 23, none, .mov, [.t 22]⟩,
  ⟨some 24, (some (23, true)), .fadr t0 [true], [.t 2]⟩,
  ⟨some 25, (some (23, true)), .load tI, [.t 24]⟩,
  ⟨some 26, (some (23, true)), .mov, [.t 1]⟩,
  ⟨some 27, (some (23, true)), .bin .leq tI, [.t 25, .t 26]⟩,
  ⟨some 28, none, .pick, [.t 23, .t 27, .bool false]⟩,
  ⟨some 4, none, .mov, [.t 28]⟩])
 (.ret))⟩
def cf_garmentref11_simple : Fn := ⟨1, 78, [.t 2], [.v .bool], none,
 .seq (.reg false [
  ⟨some 2, none, .mov, [.bool false]⟩])
 (.seq (.reg false [
  ⟨some 9, none, .mov, [.t 0]⟩,
  ⟨some 10, none, .len, [.t 9]⟩,
  ⟨some 3, none, .mov, [.t 10]⟩])
 (.seq (.seq (.reg false [
  ⟨some 4, none, .mov, [.int .i64 0]⟩])
 (.block 0 (.loop 100000 [0, 3, 4] (.seq (.seq (.reg false [
  ⟨some 11, none, .mov, [.t 4]⟩,
  ⟨some 12, none, .mov, [.t 3]⟩,
  ⟨some 13, none, .bin .lss tI, [.t 11, .t 12]⟩])
 (.cond (.t 13) (.skip) (.exit 0)))
 (.seq (.block 1 (.seq (.reg true [
  ⟨some 16, none, .mov, [.t 0]⟩,
  ⟨some 17, none, .mov, [.t 4]⟩,
  ⟨some 18, none, .iadr t0, [.t 16, .t 17]⟩,
  ⟨some 19, none, .load t0, [.t 18]⟩,
  ⟨some 20, none, .mov, [.t 0]⟩,
  ⟨some 21, none, .mov, [.t 4]⟩,
  ⟨some 22, none, .bin .add tI, [.t 21, .int .i64 1]⟩,
  ⟨some 23, none, .mov, [.t 3]⟩,
  ⟨some 24, none, .bin .rem tI, [.t 22, .t 23]⟩,
  ⟨some 25, none, .iadr t0, [.t 20, .t 24]⟩,
  ⟨some 26, none, .loadi t0, [.t 25]⟩,
  ⟨some 5, none, .alloc 5044 t0, []⟩,
  ⟨some 6, none, .alloc 5048 t0, []⟩,
  ⟨none, none, .store t0, [.t 5, .t 19]⟩,
  ⟨none, none, .store t0, [.t 6, .t 26]⟩])
 (.seq (.reg false [
  ⟨some 27, none, .mov, [.t 0]⟩,
  ⟨some 28, none, .mov, [.t 4]⟩,
  ⟨some 29, none, .bin .add tI, [.t 28, .int .i64 2]⟩,
  ⟨some 30, none, .mov, [.t 3]⟩,
  ⟨some 31, none, .bin .rem tI, [.t 29, .t 30]⟩,
  ⟨some 32, none, .iadr t0, [.t 27, .t 31]⟩,
  ⟨some 33, none, .load t0, [.t 32]⟩,
  ⟨some 7, none, .alloc 6028 t0, []⟩,
  ⟨none, none, .store t0, [.t 7, .t 33]⟩])
 (.seq (.seq (.reg false [
  ⟨some 34, none, .load t0, [.t 5]⟩,
  ⟨some 35, none, .load t0, [.t 6]⟩,
  ⟨some 36, none, .bin .eql t0, [.t 34, .t 35]⟩,
  ⟨some 37, none, .mov, [.t 36]⟩,
  ⟨some 38, (some (37, false)), .load t0, [.t 5]⟩,
  ⟨some 39, (some (37, false)), .load t0, [.t 6]⟩,
  ⟨some 40, (some (37, false)), .load t0, [.t 7]⟩,
  ⟨some 41, (some (37, false)), .call 7028 (some 70) [.v .bool] false, [.t 38, .t 39, .t 40]⟩,
  ⟨some 42, none, .pick, [.t 37, .bool true, .t 41]⟩,
  ⟨some 43, none, .mov, [.t 42]⟩,
  ⟨some 44, (some (43, false)), .load t0, [.t 6]⟩,
  ⟨some 45, (some (43, false)), .load t0, [.t 7]⟩,
  ⟨some 46, (some (43, false)), .load t0, [.t 5]⟩,
  ⟨some 47, (some (43, false)), .call 7052 (some 70) [.v .bool] false, [.t 44, .t 45, .t 46]⟩,
  ⟨some 48, none, .pick, [.t 43, .bool true, .t 47]⟩])
 (.cond (.t 48) (.seq (.reg false [
  ⟨some 2, none, .mov, [.bool false]⟩])
 (.ret)) (.skip)))
 (.seq (.reg false [
  ⟨some 49, none, .mov, [.t 4]⟩,
  ⟨some 50, none, .bin .add tI, [.t 49, .int .i64 2]⟩,
  ⟨some 8, none, .mov, [.t 50]⟩])
 (.block 2 (.loop 200000 [0, 3, 4, 5, 6, 8] (.seq (.seq (.reg false [
  ⟨some 51, none, .mov, [.t 8]⟩,
  ⟨some 52, none, .mov, [.t 3]⟩,
  ⟨some 53, none, .bin .lss tI, [.t 51, .t 52]⟩])
 (.cond (.t 53) (.skip) (.exit 2)))
 (.seq (.block 3 (.seq (.reg true [
  ⟨some 56, none, .mov, [.t 8]⟩,
  ⟨some 57, none, .bin .add tI, [.t 56, .int .i64 1]⟩,
  ⟨some 58, none, .mov, [.t 3]⟩,
  ⟨some 59, none, .bin .rem tI, [.t 57, .t 58]⟩,
  ⟨some 60, none, .mov, [.t 4]⟩,
  ⟨some 61, none, .bin .neq tI, [.t 59, .t 60]⟩,
  ⟨some 62, none, .mov, [.t 61]⟩,
  ⟨some 63, (some (62, true)), .load t0, [.t 5]⟩,
  ⟨some 64, (some (62, true)), .load t0, [.t 6]⟩,
  ⟨some 65, (some (62, true)), .mov, [.t 0]⟩,
  ⟨some 66, (some (62, true)), .mov, [.t 8]⟩,
  ⟨some 67, (some (62, true)), .iadr t0, [.t 65, .t 66]⟩,
  ⟨some 68, (some (62, true)), .load t0, [.t 67]⟩,
  ⟨some 69, (some (62, true)), .mov, [.t 0]⟩,
  ⟨some 70, (some (62, true)), .mov, [.t 8]⟩,
  ⟨some 71, (some (62, true)), .bin .add tI, [.t 70, .int .i64 1]⟩,
  ⟨some 72, (some (62, true)), .mov, [.t 3]⟩,
  ⟨some 73, (some (62, true)), .bin .rem tI, [.t 71, .t 72]⟩,
  ⟨some 74, (some (62, true)), .iadr t0, [.t 69, .t 73]⟩,
  ⟨some 75, (some (62, true)), .load t0, [.t 74]⟩,
  ⟨some 76, (some (62, true)), .call 12080 (some 71) [.v .bool] false, [.t 63, .t 64, .t 68, .t 75]⟩,
  ⟨some 77, none, .pick, [.t 62, .t 76, .bool false]⟩])
 (.cond (.t 77) (.seq (.reg false [
  ⟨some 2, none, .mov, [.bool false]⟩])
 (.ret)) (.skip))))
 (.reg false [
  ⟨some 54, none, .mov, [.t 8]⟩,
  ⟨some 55, none, .bin .add tI, [.t 54, .int .i64 1]⟩,
  ⟨some 8, none, .mov, [.t 55]⟩]))))))))))
 (.reg false [
  ⟨some 14, none, .mov, [.t 4]⟩,
  ⟨some 15, none, .bin .add tI, [.t 14, .int .i64 1]⟩,
  ⟨some 4, none, .mov, [.t 15]⟩]))))))
 (.seq (.reg false [
  ⟨some 2, none, .mov, [.bool true]⟩])
 (.ret))))⟩
def cf_garmentref11_Between : Fn := ⟨3, 52, [.t 6], [.v .bool], none,
 .seq (.reg false [
  ⟨some 3, none, .box 0 t0, [.t 0]⟩,
  ⟨some 4, none, .box 4 t0, [.t 1]⟩,
  ⟨some 5, none, .box 8 t0, [.t 2]⟩,
  ⟨some 6, none, .mov, [.bool false]⟩])
 (.seq (.reg false [
  ⟨some 7, none, .load t0, [.t 3]⟩,
  ⟨some 8, none, .load t0, [.t 4]⟩,
  ⟨some 9, none, .load t0, [.t 5]⟩,
  ⟨some 10, none, .call 1012 (some 33) [.v tI] false, [.t 7, .t 8, .t 9]⟩,
  ⟨some 11, none, .bin .eql tI, [.t 10, .int .i64 0]⟩,
  ⟨some 12, none, .mov, [.t 11]⟩,
  ⟨some 13, (some (12, true)), .fadr t0 [false], [.t 3]⟩,
  ⟨some 14, (some (12, true)), .load tI, [.t 13]⟩,
  ⟨some 15, (some (12, true)), .fadr t0 [false], [.t 4]⟩,
  ⟨some 16, (some (12, true)), .load tI, [.t 15]⟩,
  ⟨some 17, (some (12, true)), .mm false .i64, [.t 14, .t 16]⟩,
  ⟨some 18, (some (12, true)), .fadr t0 [false], [.t 5]⟩,
  ⟨some 19, (some (12, true)), .load tI, [.t 18]⟩,
  ⟨some 20, (some (12, true)), .bin .leq tI, [.t 17, .t 19]⟩,
  ⟨some 21, none, .pick, [.t 12, .t 20, .bool false]⟩,
  ⟨some 22, none, .mov, [.t 21]⟩,
  ⟨some 23, (some (22, true)), .fadr t0 [false], [.t 5]⟩,
  ⟨some 24, (some (22, true)), .load tI, [.t 23]⟩,
  ⟨some 25, (some (22, true)), .fadr t0 [false], [.t 3]⟩,
  ⟨some 26, (some (22, true)), .load tI, [.t 25]⟩,
  ⟨some 27, (some (22, true)), .fadr t0 [false], [.t 4]⟩,
  ⟨some 28, (some (22, true)), .load tI, [.t 27]⟩,
  ⟨some 29, (some (22, true)), .mm true .i64, [.t 26, .t 28]⟩,
  ⟨some 30, (some (22, true)), .bin .leq tI, [.t 24, .t 29]⟩,
  ⟨some 31, none, .pick, [.t 22, .t 30, .bool false]⟩,
  ⟨some 32, none, .mov, [.t 31]⟩,
  ⟨some 33, (some (32, true)), .fadr t0 [true], [.t 3]⟩,
  ⟨some 34, (some (32, true)), .load tI, [.t 33]⟩,
  ⟨some 35, (some (32, true)), .fadr t0 [true], [.t 4]⟩,
  ⟨some 36, (some (32, true)), .load tI, [.t 35]⟩,
  ⟨some 37, (some (32, true)), .mm false .i64, [.t 34, .t 36]⟩,
  ⟨some 38, (some (32, true)), .fadr t0 [true], [.t 5]⟩,
  ⟨some 39, (some (32, true)), .load tI, [.t 38]⟩,
  ⟨some 40, (some (32, true)), .bin .leq tI, [.t 37, .t 39]⟩,
  ⟨some 41, none, .pick, [.t 32, .t 40, .bool false]⟩,
  ⟨some 42, none, .mov, [.t 41]⟩,
  ⟨some 43, (some (42, true)), .fadr t0 [true], [.t 5]⟩,
  ⟨some 44, (some (42, true)), .load tI, [.t 43]⟩,
  ⟨some 45, (some (42, true)), .fadr t0 [true], [.t 3]⟩,
  ⟨some 46, (some (42, true)), .load tI, [.t 45]⟩,
  ⟨some 47, (some (42, true)), .fadr t0 [true], [.t 4]⟩,
  ⟨some 48, (some (42, true)), .load tI, [.t 47]⟩,
  ⟨some 49, (some (42, true)), .mm true .i64, [.t 46, .t 48]⟩,
  ⟨some 50, (some (42, true)), .bin .leq tI, [.t 44, .t 49]⟩,
  ⟨some 51, none, .pick, [.t 42, .t 50, .bool false]⟩,
  ⟨some 6, none, .mov, [.t 51]⟩])
 (.ret))⟩
def cf_garmentref11_meet : Fn := ⟨4, 57, [.t 8], [.v .bool], none,
 .seq (.reg false [
  ⟨some 4, none, .box 0 t0, [.t 0]⟩,
  ⟨some 5, none, .box 4 t0, [.t 1]⟩,
  ⟨some 6, none, .box 8 t0, [.t 2]⟩,
  ⟨some 7, none, .box 12 t0, [.t 3]⟩,
  ⟨some 8, none, .mov, [.bool false]⟩])
 (.seq (.seq (.reg false [
  ⟨some 9, none, .load t0, [.t 4]⟩,
  ⟨some 10, none, .load t0, [.t 5]⟩,
  ⟨some 11, none, .load t0, [.t 6]⟩,
  ⟨some 12, none, .call 1012 (some 70) [.v .bool] false, [.t 9, .t 10, .t 11]⟩,
  ⟨some 13, none, .mov, [.t 12]⟩,
  ⟨some 14, (some (13, false)), .load t0, [.t 4]⟩,
  ⟨some 15, (some (13, false)), .load t0, [.t 5]⟩,
  ⟨some 16, (some (13, false)), .load t0, [.t 7]⟩,
  ⟨some 17, (some (13, false)), .call 1032 (some 70) [.v .bool] false, [.t 14, .t 15, .t 16]⟩,
  ⟨some 18, none, .pick, [.t 13, .bool true, .t 17]⟩,
  ⟨some 19, none, .mov, [.t 18]⟩,
  ⟨some 20, (some (19, false)), .load t0, [.t 6]⟩,
  ⟨some 21, (some (19, false)), .load t0, [.t 7]⟩,
  ⟨some 22, (some (19, false)), .load t0, [.t 4]⟩,
  ⟨some 23, (some (19, false)), .call 1056 (some 70) [.v .bool] false, [.t 20, .t 21, .t 22]⟩,
  ⟨some 24, none, .pick, [.t 19, .bool true, .t 23]⟩,
  ⟨some 25, none, .mov, [.t 24]⟩,
  ⟨some 26, (some (25, false)), .load t0, [.t 6]⟩,
  ⟨some 27, (some (25, false)), .load t0, [.t 7]⟩,
  ⟨some 28, (some (25, false)), .load t0, [.t 5]⟩,
  ⟨some 29, (some (25, false)), .call 1080 (some 70) [.v .bool] false, [.t 26, .t 27, .t 28]⟩,
  ⟨some 30, none, .pick, [.t 25, .bool true, .t 29]⟩])
 (.cond (.t 30) (.seq (.reg false [
  ⟨some 8, none, .mov, [.bool true]⟩])
 (.ret)) (.skip)))
 (.seq (.reg true [
  ⟨some 31, none, .load t0, [.t 4]⟩,
  ⟨some 32, none, .load t0, [.t 5]⟩,
  ⟨some 33, none, .load t0, [.t 6]⟩,
  ⟨some 34, none, .call 3012 (some 33) [.v tI] false, [.t 31, .t 32, .t 33]⟩,
  ⟨some 35, none, .call 3016 (some 72) [.v tI] false, [.t 34]⟩,
  ⟨some 36, none, .load t0, [.t 4]⟩,
  ⟨some 37, none, .load t0, [.t 5]⟩,
  ⟨some 38, none, .load t0, [.t 7]⟩,
  ⟨some 39, none, .call 3032 (some 33) [.v tI] false, [.t 36, .t 37, .t 38]⟩,
  ⟨some 40, none, .call 3036 (some 72) [.v tI] false, [.t 39]⟩,
  ⟨some 41, none, .bin .mul tI, [.t 35, .t 40]⟩,
  ⟨some 42, none, .bin .lss tI, [.t 41, .int .i64 0]⟩,
  ⟨some 43, none, .mov, [.t 42]⟩,
  ⟨some 44, (some (43, true)), .load t0, [.t 6]⟩,
  ⟨some 45, (some (43, true)), .load t0, [.t 7]⟩,
  ⟨some 46, (some (43, true)), .load t0, [.t 4]⟩,
  ⟨some 47, (some (43, true)), .call 3064 (some 33) [.v tI] false, [.t 44, .t 45, .t 46]⟩,
  ⟨some 48, (some (43, true)), .call 3068 (some 72) [.v tI] false, [.t 47]⟩,
  ⟨some 49, (some (43, true)), .load t0, [.t 6]⟩,
  ⟨some 50, (some (43, true)), .load t0, [.t 7]⟩,
  ⟨some 51, (some (43, true)), .load t0, [.t 5]⟩,
  ⟨some 52, (some (43, true)), .call 3084 (some 33) [.v tI] false, [.t 49, .t 50, .t 51]⟩,
  ⟨some 53, (some (43, true)), .call 3088 (some 72) [.v tI] false, [.t 52]⟩,
  ⟨some 54, (some (43, true)), .bin .mul tI, [.t 48, .t 53]⟩,
  ⟨some 55, (some (43, true)), .bin .lss tI, [.t 54, .int .i64 0]⟩,
  ⟨some 56, none, .pick, [.t 43, .t 55, .bool false]⟩,
  ⟨some 8, none, .mov, [.t 56]⟩])
 (.ret)))⟩
def cf_garmentref11_sign : Fn := ⟨1, 9, [.t 2], [.v tI], none,
 .seq (.reg false [
  ⟨some 2, none, .mov, [.int .i64 0]⟩])
 (.seq (.block 0 (.seq (.reg false [
  ⟨some 4, none, .mov, [.t 0]⟩,
  ⟨some 5, none, .bin .gtr tI, [.t 4, .int .i64 0]⟩,
  ⟨some 3, none, .mov, [.t 5]⟩])
 (.cond (.t 3) (.seq (.reg false [
  ⟨some 2, none, .mov, [.int .i64 1]⟩])
 (.ret)) (.seq (.reg false [
  ⟨some 7, none, .mov, [.t 0]⟩,
  ⟨some 8, none, .bin .lss tI, [.t 7, .int .i64 0]⟩,
  ⟨some 6, none, .mov, [.t 8]⟩])
 (.cond (.t 6) (.seq (.reg false [
  ⟨some 2, none, .mov, [.int .i64 (-1)]⟩])
 (.ret)) (.skip))))))
 (.seq (.reg false [
  ⟨some 2, none, .mov, [.int .i64 0]⟩])
 (.ret)))⟩
def cf_garmentlaw15_exampleHolds : Fn := ⟨0, 141, [.t 0], [.v .bool], none,
 .seq (.reg false [
  ⟨some 0, none, .mov, [.bool false]⟩])
 (.seq (.reg false [
  ⟨some 21, none, .call 1000 (some 144) [.o t0] false, [.int .i64 0, .int .i64 0, .int .i64 4, .int .i64 4]⟩,
  ⟨some 1, none, .mov, [.t 21]⟩])
 (.seq (.reg false [
  ⟨some 23, none, .mov, [.t 1]⟩,
  ⟨some 24, none, .call 2004 (some 144) [.o t0] false, [.int .i64 3, .int .i64 3, .int .i64 6, .int .i64 6]⟩,
  ⟨some 25, none, .call 2008 (some 139) [.v .bool, .v tI] false, [.t 23, .t 24]⟩,
  ⟨some 22, none, .mov, [.t 25]⟩,
  ⟨some 26, none, .ext 0, [.t 22]⟩,
  ⟨some 27, none, .ext 1, [.t 22]⟩,
  ⟨some 2, none, .mov, [.t 26]⟩,
  ⟨some 3, none, .mov, [.t 27]⟩])
 (.seq (.reg false [
  ⟨some 29, none, .mov, [.t 1]⟩,
  ⟨some 30, none, .call 3004 (some 144) [.o t0] false, [.int .i64 4, .int .i64 0, .int .i64 8, .int .i64 4]⟩,
  ⟨some 31, none, .call 3008 (some 139) [.v .bool, .v tI] false, [.t 29, .t 30]⟩,
  ⟨some 28, none, .mov, [.t 31]⟩,
  ⟨some 32, none, .ext 0, [.t 28]⟩,
  ⟨some 33, none, .ext 1, [.t 28]⟩,
  ⟨some 4, none, .mov, [.t 32]⟩,
  ⟨some 5, none, .mov, [.t 33]⟩])
 (.seq (.reg false [
  ⟨some 35, none, .mov, [.t 1]⟩,
  ⟨some 36, none, .call 4004 (some 144) [.o t0] false, [.int .i64 4, .int .i64 4, .int .i64 5, .int .i64 5]⟩,
  ⟨some 37, none, .call 4008 (some 141) [.v .bool, .v tI] false, [.t 35, .t 36]⟩,
  ⟨some 34, none, .mov, [.t 37]⟩,
  ⟨some 38, none, .ext 0, [.t 34]⟩,
  ⟨some 39, none, .ext 1, [.t 34]⟩,
  ⟨some 6, none, .mov, [.t 38]⟩,
  ⟨some 7, none, .mov, [.t 39]⟩])
 (.seq (.reg false [
  ⟨some 41, none, .mov, [.t 1]⟩,
  ⟨some 42, none, .call 5004 (some 144) [.o t0] false, [.int .i64 5, .int .i64 0, .int .i64 6, .int .i64 1]⟩,
  ⟨some 43, none, .call 5008 (some 141) [.v .bool, .v tI] false, [.t 41, .t 42]⟩,
  ⟨some 40, none, .mov, [.t 43]⟩,
  ⟨some 44, none, .ext 0, [.t 40]⟩,
  ⟨some 45, none, .ext 1, [.t 40]⟩,
  ⟨some 8, none, .mov, [.t 44]⟩,
  ⟨some 9, none, .mov, [.t 45]⟩])
 (.seq (.reg false [
  ⟨some 46, none, .build t0 [([false], tI), ([true], tI)], [.int .i64 0, .int .i64 0]⟩,
  ⟨some 47, none, .build t0 [([false], tI), ([true], tI)], [.int .i64 4, .int .i64 0]⟩,
  ⟨some 48, none, .build t0 [([false], tI), ([true], tI)], [.int .i64 0, .int .i64 4]⟩,
  ⟨some 49, none, .bsl 6012 t0 3 [0, 1, 2], [.t 46, .t 47, .t 48]⟩,
  ⟨some 10, none, .mov, [.t 49]⟩])
 (.seq (.reg false [
  ⟨some 51, none, .mov, [.t 10]⟩,
  ⟨some 52, none, .build t8 [([false], tI), ([true, false], tI), ([true, true, false], tI), ([true, true, true], tI)], [.int .i64 2, .int .i64 2, .int .i64 2, .int .i64 2]⟩,
  ⟨some 53, none, .call 7008 (some 145) [.v .bool, .v tI] false, [.t 51, .t 52]⟩,
  ⟨some 50, none, .mov, [.t 53]⟩,
  ⟨some 54, none, .ext 0, [.t 50]⟩,
  ⟨some 55, none, .ext 1, [.t 50]⟩,
  ⟨some 11, none, .mov, [.t 54]⟩,
  ⟨some 12, none, .mov, [.t 55]⟩])
 (.seq (.reg false [
  ⟨some 57, none, .mov, [.t 10]⟩,
  ⟨some 58, none, .build t8 [([false], tI), ([true, false], tI), ([true, true, false], tI), ([true, true, true], tI)], [.int .i64 1, .int .i64 2, .int .i64 3, .int .i64 2]⟩,
  ⟨some 59, none, .call 8008 (some 145) [.v .bool, .v tI] false, [.t 57, .t 58]⟩,
  ⟨some 56, none, .mov, [.t 59]⟩,
  ⟨some 60, none, .ext 0, [.t 56]⟩,
  ⟨some 61, none, .ext 1, [.t 56]⟩,
  ⟨some 13, none, .mov, [.t 60]⟩,
  ⟨some 14, none, .mov, [.t 61]⟩])
 (.seq (.reg false [
  ⟨some 63, none, .mov, [.t 10]⟩,
  ⟨some 64, none, .call 9004 (some 146) [.v .bool, .v tI] false, [.t 63, .int .i64 1]⟩,
  ⟨some 62, none, .mov, [.t 64]⟩,
  ⟨some 65, none, .ext 0, [.t 62]⟩,
  ⟨some 66, none, .ext 1, [.t 62]⟩,
  ⟨some 15, none, .mov, [.t 65]⟩,
  ⟨some 16, none, .mov, [.t 66]⟩])
 (.seq (.reg false [
  ⟨some 68, none, .mov, [.t 10]⟩,
  ⟨some 69, none, .call 10004 (some 146) [.v .bool, .v tI] false, [.t 68, .int .i64 0]⟩,
  ⟨some 67, none, .mov, [.t 69]⟩,
  ⟨some 70, none, .ext 0, [.t 67]⟩,
  ⟨some 71, none, .ext 1, [.t 67]⟩,
  ⟨some 17, none, .mov, [.t 70]⟩,
  ⟨some 18, none, .mov, [.t 71]⟩])
 (.seq (.reg false [
  ⟨some 73, none, .mov, [.t 1]⟩,
  ⟨some 74, none, .mov, [.t 1]⟩,
  ⟨some 75, none, .slice 11008 .snap t0 false true false, [.t 74, .int .i64 2]⟩,
  ⟨some 76, none, .call 11012 (some 139) [.v .bool, .v tI] false, [.t 73, .t 75]⟩,
  ⟨some 72, none, .mov, [.t 76]⟩,
  ⟨some 77, none, .ext 0, [.t 72]⟩,
  ⟨some 78, none, .ext 1, [.t 72]⟩,
  ⟨some 19, none, .mov, [.t 77]⟩,
  ⟨some 20, none, .mov, [.t 78]⟩])
 (.seq (.reg false [
  ⟨some 79, none, .mov, [.t 2]⟩,
  ⟨some 80, none, .mov, [.t 79]⟩,
  ⟨some 81, (some (80, true)), .mov, [.t 3]⟩,
  ⟨some 82, (some (80, true)), .bin .eql tI, [.t 81, .int .i64 0]⟩,
  ⟨some 83, none, .pick, [.t 80, .t 82, .bool false]⟩,
  ⟨some 84, none, .mov, [.t 83]⟩,
  ⟨some 85, (some (84, true)), .mov, [.t 4]⟩,
  ⟨some 86, (some (84, true)), .not, [.t 85]⟩,
  ⟨some 87, none, .pick, [.t 84, .t 86, .bool false]⟩,
  ⟨some 88, none, .mov, [.t 87]⟩,
  ⟨some 89, (some (88, true)), .mov, [.t 5]⟩,
  ⟨some 90, (some (88, true)), .bin .eql tI, [.t 89, .int .i64 0]⟩,
  ⟨some 91, none, .pick, [.t 88, .t 90, .bool false]⟩,
  ⟨some 92, none, .mov, [.t 91]⟩,
  ⟨some 93, (some (92, true)), .mov, [.t 6]⟩,
  ⟨some 94, none, .pick, [.t 92, .t 93, .bool false]⟩,
  ⟨some 95, none, .mov, [.t 94]⟩,
  ⟨some 96, (some (95, true)), .mov, [.t 7]⟩,
  ⟨some 97, (some (95, true)), .bin .eql tI, [.t 96, .int .i64 0]⟩,
  ⟨some 98, none, .pick, [.t 95, .t 97, .bool false]⟩,
  ⟨some 99, none, .mov, [.t 98]⟩,
  ⟨some 100, (some (99, true)), .mov, [.t 8]⟩,
  ⟨some 101, (some (99, true)), .not, [.t 100]⟩,
  ⟨some 102, none, .pick, [.t 99, .t 101, .bool false]⟩,
  ⟨some 103, none, .mov, [.t 102]⟩,
  ⟨some 104, (some (103, true)), .mov, [.t 9]⟩,
  ⟨some 105, (some (103, true)), .bin .eql tI, [.t 104, .int .i64 0]⟩,
  ⟨some 106, none, .pick, [.t 103, .t 105, .bool false]⟩,
  ⟨some 107, none, .mov, [.t 106]⟩,
  ⟨some 108, (some (107, true)), .mov, [.t 11]⟩,
  ⟨some 109, (some (107, true)), .not, [.t 108]⟩,
  ⟨some 110, none, .pick, [.t 107, .t 109, .bool false]⟩,
  ⟨some 111, none, .mov, [.t 110]⟩,
  ⟨some 112, (some (111, true)), .mov, [.t 12]⟩,
  ⟨some 113, (some (111, true)), .bin .eql tI, [.t 112, .int .i64 0]⟩,
  ⟨some 114, none, .pick, [.t 111, .t 113, .bool false]⟩,
  ⟨some 115, none, .mov, [.t 114]⟩,
  ⟨some 116, (some (115, true)), .mov, [.t 13]⟩,
  ⟨some 117, none, .pick, [.t 115, .t 116, .bool false]⟩,
  ⟨some 118, none, .mov, [.t 117]⟩,
  ⟨some 119, (some (118, true)), .mov, [.t 14]⟩,
  ⟨some 120, (some (118, true)), .bin .eql tI, [.t 119, .int .i64 0]⟩,
  ⟨some 121, none, .pick, [.t 118, .t 120, .bool false]⟩,
  ⟨some 122, none, .mov, [.t 121]⟩,
  ⟨some 123, (some (122, true)), .mov, [.t 15]⟩,
  ⟨some 124, none, .pick, [.t 122, .t 123, .bool false]⟩,
  ⟨some 125, none, .mov, [.t 124]⟩,
  ⟨some 126, (some (125, true)), .mov, [.t 16]⟩,
  ⟨some 127, (some (125, true)), .bin .eql tI, [.t 126, .int .i64 0]⟩,
  ⟨some 128, none, .pick, [.t 125, .t 127, .bool false]⟩,
  ⟨some 129, none, .mov, [.t 128]⟩,
  ⟨some 130, (some (129, true)), .mov, [.t 17]⟩,
  ⟨some 131, (some (129, true)), .not, [.t 130]⟩,
  ⟨some 132, none, .pick, [.t 129, .t 131, .bool false]⟩,
  ⟨some 133, none, .mov, [.t 132]⟩,
  ⟨some 134, (some (133, true)), .mov, [.t 18]⟩,
  ⟨some 135, (some (133, true)), .bin .eql tI, [.t 134, .int .i64 0]⟩,
  ⟨some 136, none, .pick, [.t 133, .t 135, .bool false]⟩,
  ⟨some 137, none, .mov, [.t 136]⟩,
  ⟨some 138, (some (137, true)), .mov, [.t 20]⟩,
  ⟨some 139, (some (137, true)), .bin .eql tI, [.t 138, .int .i64 11]⟩,
  ⟨some 140, none, .pick, [.t 137, .t 139, .bool false]⟩,
  ⟨some 0, none, .mov, [.t 140]⟩])
 (.ret)))))))))))))⟩
def cf_overlap_Overlap : Fn := ⟨2, 22, [.t 4, .t 5], [.v .bool, .v tI], none,
 .seq (.reg false [
  ⟨some 4, none, .mov, [.bool false]⟩,
  ⟨some 5, none, .mov, [.int .i64 0]⟩])
 (.seq (.reg false [
  ⟨some 10, none, .mov, [.t 0]⟩,
  ⟨some 11, none, .mov, [.t 1]⟩,
  ⟨some 12, none, .call 1008 (some 147) [.o (.sl t0), .o (.sl t0), .v tI] false, [.t 10, .t 11]⟩,
  ⟨some 9, none, .mov, [.t 12]⟩,
  ⟨some 13, none, .ext 0, [.t 9]⟩,
  ⟨some 14, none, .ext 1, [.t 9]⟩,
  ⟨some 15, none, .ext 2, [.t 9]⟩,
  ⟨some 6, none, .mov, [.t 13]⟩,
  ⟨some 7, none, .mov, [.t 14]⟩,
  ⟨some 8, none, .mov, [.t 15]⟩])
 (.seq (.seq (.reg false [
  ⟨some 16, none, .mov, [.t 8]⟩,
  ⟨some 17, none, .bin .neq tI, [.t 16, .int .i64 0]⟩])
 (.cond (.t 17) (.seq (.reg false [
  ⟨some 18, none, .mov, [.t 8]⟩,
  ⟨some 4, none, .mov, [.bool false]⟩,
  ⟨some 5, none, .mov, [.t 18]⟩])
 (.ret)) (.skip)))
 (.seq (.reg false [
  ⟨some 19, none, .mov, [.t 6]⟩,
  ⟨some 20, none, .mov, [.t 7]⟩,
  ⟨some 21, none, .call 4008 (some 148) [.v .bool] false, [.t 19, .t 20, .bool true]⟩,
  ⟨some 4, none, .mov, [.t 21]⟩,
  ⟨some 5, none, .mov, [.int .i64 0]⟩])
 (.ret))))⟩
def cf_overlap_Touch : Fn := ⟨2, 28, [.t 4, .t 5], [.v .bool, .v tI], none,
 .seq (.reg false [
  ⟨some 4, none, .mov, [.bool false]⟩,
  ⟨some 5, none, .mov, [.int .i64 0]⟩])
 (.seq (.reg false [
  ⟨some 10, none, .mov, [.t 0]⟩,
  ⟨some 11, none, .mov, [.t 1]⟩,
  ⟨some 12, none, .call 1008 (some 147) [.o (.sl t0), .o (.sl t0), .v tI] false, [.t 10, .t 11]⟩,
  ⟨some 9, none, .mov, [.t 12]⟩,
  ⟨some 13, none, .ext 0, [.t 9]⟩,
  ⟨some 14, none, .ext 1, [.t 9]⟩,
  ⟨some 15, none, .ext 2, [.t 9]⟩,
  ⟨some 6, none, .mov, [.t 13]⟩,
  ⟨some 7, none, .mov, [.t 14]⟩,
  ⟨some 8, none, .mov, [.t 15]⟩])
 (.seq (.seq (.reg false [
  ⟨some 16, none, .mov, [.t 8]⟩,
  ⟨some 17, none, .bin .neq tI, [.t 16, .int .i64 0]⟩])
 (.cond (.t 17) (.seq (.reg false [
  ⟨some 18, none, .mov, [.t 8]⟩,
  ⟨some 4, none, .mov, [.bool false]⟩,
  ⟨some 5, none, .mov, [.t 18]⟩])
 (.ret)) (.skip)))
 (.seq (.reg false [
  ⟨some 19, none, .mov, [.t 6]⟩,
  ⟨some 20, none, .mov, [.t 7]⟩,
  ⟨some 21, none, .call 4008 (some 148) [.v .bool] false, [.t 19, .t 20, .bool true]⟩,
  ⟨some 22, none, .not, [.t 21]⟩,
  ⟨some 23, none, .mov, [.t 22]⟩,
  ⟨some 24, (some (23, true)), .mov, [.t 6]⟩,
  ⟨some 25, (some (23, true)), .mov, [.t 7]⟩,
  ⟨some 26, (some (23, true)), .call 4028 (some 148) [.v .bool] false, [.t 24, .t 25, .bool false]⟩,
  ⟨some 27, none, .pick, [.t 23, .t 26, .bool false]⟩,
  ⟨some 4, none, .mov, [.t 27]⟩,
  ⟨some 5, none, .mov, [.int .i64 0]⟩])
 (.ret))))⟩
def cf_garmentlaw15_rect : Fn := ⟨4, 22, [.t 8], [.o t0], none,
 .seq (.reg false [
  ⟨some 8, none, .own0 0 t0, []⟩])
 (.seq (.reg false [
  ⟨some 9, none, .mov, [.t 0]⟩,
  ⟨some 10, none, .mov, [.t 1]⟩,
  ⟨some 11, none, .build t0 [([false], tI), ([true], tI)], [.t 9, .t 10]⟩,
  ⟨some 12, none, .mov, [.t 2]⟩,
  ⟨some 13, none, .mov, [.t 1]⟩,
  ⟨some 14, none, .build t0 [([false], tI), ([true], tI)], [.t 12, .t 13]⟩,
  ⟨some 15, none, .mov, [.t 2]⟩,
  ⟨some 16, none, .mov, [.t 3]⟩,
  ⟨some 17, none, .build t0 [([false], tI), ([true], tI)], [.t 15, .t 16]⟩,
  ⟨some 18, none, .mov, [.t 0]⟩,
  ⟨some 19, none, .mov, [.t 3]⟩,
  ⟨some 20, none, .build t0 [([false], tI), ([true], tI)], [.t 18, .t 19]⟩,
  ⟨some 21, none, .bsl 1048 t0 4 [0, 1, 2, 3], [.t 11, .t 14, .t 17, .t 20]⟩,
  ⟨some 8, none, .mov, [.t 21]⟩])
 (.ret))⟩
def cf_overlap_Hits : Fn := ⟨2, 67, [.t 4, .t 5], [.v .bool, .v tI], none,
 .seq (.reg false [
  ⟨some 3, none, .box 0 t8, [.t 1]⟩,
  ⟨some 4, none, .mov, [.bool false]⟩,
  ⟨some 5, none, .mov, [.int .i64 0]⟩])
 (.seq (.seq (.reg false [
  ⟨some 13, none, .mov, [.t 0]⟩,
  ⟨some 14, none, .call 1004 (some 13) [.v tI] false, [.t 13]⟩,
  ⟨some 6, none, .mov, [.t 14]⟩])
 (.seq (.reg false [
  ⟨some 15, none, .mov, [.t 6]⟩,
  ⟨some 16, none, .bin .neq tI, [.t 15, .int .i64 0]⟩])
 (.cond (.t 16) (.seq (.reg false [
  ⟨some 17, none, .mov, [.t 6]⟩,
  ⟨some 4, none, .mov, [.bool false]⟩,
  ⟨some 5, none, .mov, [.t 17]⟩])
 (.ret)) (.skip))))
 (.seq (.seq (.reg false [
  ⟨some 18, none, .fadr t8 [true, true, false], [.t 3]⟩,
  ⟨some 19, none, .load tI, [.t 18]⟩,
  ⟨some 20, none, .bin .lss tI, [.t 19, .int .i64 1]⟩,
  ⟨some 21, none, .mov, [.t 20]⟩,
  ⟨some 22, (some (21, false)), .fadr t8 [true, true, true], [.t 3]⟩,
  ⟨some 23, (some (21, false)), .load tI, [.t 22]⟩,
  ⟨some 24, (some (21, false)), .bin .lss tI, [.t 23, .int .i64 1]⟩,
  ⟨some 25, none, .pick, [.t 21, .bool true, .t 24]⟩])
 (.cond (.t 25) (.seq (.reg false [
  ⟨some 4, none, .mov, [.bool false]⟩,
  ⟨some 5, none, .mov, [.int .i64 0]⟩])
 (.ret)) (.skip)))
 (.seq (.reg false [
  ⟨some 27, none, .fadr t8 [false], [.t 3]⟩,
  ⟨some 28, none, .load tI, [.t 27]⟩,
  ⟨some 29, none, .fadr t8 [true, true, false], [.t 3]⟩,
  ⟨some 30, none, .load tI, [.t 29]⟩,
  ⟨some 31, none, .call 6016 (some 150) [.v tI, .v tI, .v .bool] false, [.t 28, .t 30]⟩,
  ⟨some 26, none, .mov, [.t 31]⟩,
  ⟨some 32, none, .ext 0, [.t 26]⟩,
  ⟨some 33, none, .ext 1, [.t 26]⟩,
  ⟨some 34, none, .ext 2, [.t 26]⟩,
  ⟨some 7, none, .mov, [.t 32]⟩,
  ⟨some 8, none, .mov, [.t 33]⟩,
  ⟨some 9, none, .mov, [.t 34]⟩])
 (.seq (.reg false [
  ⟨some 36, none, .fadr t8 [true, false], [.t 3]⟩,
  ⟨some 37, none, .load tI, [.t 36]⟩,
  ⟨some 38, none, .fadr t8 [true, true, true], [.t 3]⟩,
  ⟨some 39, none, .load tI, [.t 38]⟩,
  ⟨some 40, none, .call 7016 (some 150) [.v tI, .v tI, .v .bool] false, [.t 37, .t 39]⟩,
  ⟨some 35, none, .mov, [.t 40]⟩,
  ⟨some 41, none, .ext 0, [.t 35]⟩,
  ⟨some 42, none, .ext 1, [.t 35]⟩,
  ⟨some 43, none, .ext 2, [.t 35]⟩,
  ⟨some 10, none, .mov, [.t 41]⟩,
  ⟨some 11, none, .mov, [.t 42]⟩,
  ⟨some 12, none, .mov, [.t 43]⟩])
 (.seq (.seq (.reg false [
  ⟨some 44, none, .mov, [.t 9]⟩,
  ⟨some 45, none, .not, [.t 44]⟩,
  ⟨some 46, none, .mov, [.t 45]⟩,
  ⟨some 47, (some (46, false)), .mov, [.t 12]⟩,
  ⟨some 48, (some (46, false)), .not, [.t 47]⟩,
  ⟨some 49, none, .pick, [.t 46, .bool true, .t 48]⟩])
 (.cond (.t 49) (.seq (.reg false [
  ⟨some 4, none, .mov, [.bool false]⟩,
  ⟨some 5, none, .mov, [.int .i64 0]⟩])
 (.ret)) (.skip)))
 (.seq (.reg false [
  ⟨some 50, none, .mov, [.t 0]⟩,
  ⟨some 51, none, .mov, [.t 7]⟩,
  ⟨some 52, none, .mov, [.t 10]⟩,
  ⟨some 53, none, .build t0 [([false], tI), ([true], tI)], [.t 51, .t 52]⟩,
  ⟨some 54, none, .mov, [.t 8]⟩,
  ⟨some 55, none, .mov, [.t 10]⟩,
  ⟨some 56, none, .build t0 [([false], tI), ([true], tI)], [.t 54, .t 55]⟩,
  ⟨some 57, none, .mov, [.t 8]⟩,
  ⟨some 58, none, .mov, [.t 11]⟩,
  ⟨some 59, none, .build t0 [([false], tI), ([true], tI)], [.t 57, .t 58]⟩,
  ⟨some 60, none, .mov, [.t 7]⟩,
  ⟨some 61, none, .mov, [.t 11]⟩,
  ⟨some 62, none, .build t0 [([false], tI), ([true], tI)], [.t 60, .t 61]⟩,
  ⟨some 63, none, .bsl 10052 t0 4 [0, 1, 2, 3], [.t 53, .t 56, .t 59, .t 62]⟩,
  ⟨some 64, none, .call 10056 (some 139) [.v .bool, .v tI] false, [.t 50, .t 63]⟩,
  ⟨some 65, none, .ext 0, [.t 64]⟩,
  ⟨some 66, none, .ext 1, [.t 64]⟩,
  ⟨some 4, none, .mov, [.t 65]⟩,
  ⟨some 5, none, .mov, [.t 66]⟩])
 (.ret)))))))⟩
def cf_overlap_Crosses : Fn := ⟨2, 29, [.t 4, .t 5], [.v .bool, .v tI], none,
 .seq (.reg false [
  ⟨some 4, none, .mov, [.bool false]⟩,
  ⟨some 5, none, .mov, [.int .i64 0]⟩])
 (.seq (.reg false [
  ⟨some 9, none, .mov, [.t 0]⟩,
  ⟨some 10, none, .call 1004 (some 61) [.v t8, .v tI] false, [.t 9]⟩,
  ⟨some 8, none, .mov, [.t 10]⟩,
  ⟨some 11, none, .ext 0, [.t 8]⟩,
  ⟨some 12, none, .ext 1, [.t 8]⟩,
  ⟨some 6, none, .alloc 1020 t8, []⟩,
  ⟨none, none, .store t8, [.t 6, .t 11]⟩,
  ⟨some 7, none, .mov, [.t 12]⟩])
 (.seq (.seq (.reg false [
  ⟨some 13, none, .mov, [.t 7]⟩,
  ⟨some 14, none, .bin .neq tI, [.t 13, .int .i64 0]⟩])
 (.cond (.t 14) (.seq (.reg false [
  ⟨some 15, none, .mov, [.t 7]⟩,
  ⟨some 4, none, .mov, [.bool false]⟩,
  ⟨some 5, none, .mov, [.t 15]⟩])
 (.ret)) (.skip)))
 (.seq (.reg false [
  ⟨some 16, none, .fadr t8 [false], [.t 6]⟩,
  ⟨some 17, none, .load tI, [.t 16]⟩,
  ⟨some 18, none, .mov, [.t 1]⟩,
  ⟨some 19, none, .bin .lss tI, [.t 17, .t 18]⟩,
  ⟨some 20, none, .mov, [.t 19]⟩,
  ⟨some 21, (some (20, true)), .mov, [.t 1]⟩,
  ⟨some 22, (some (20, true)), .fadr t8 [false], [.t 6]⟩,
  ⟨some 23, (some (20, true)), .load tI, [.t 22]⟩,
  ⟨some 24, (some (20, true)), .fadr t8 [true, true, false], [.t 6]⟩,
  ⟨some 25, (some (20, true)), .load tI, [.t 24]⟩,
  ⟨some 26, (some (20, true)), .bin .add tI, [.t 23, .t 25]⟩,
  ⟨some 27, (some (20, true)), .bin .lss tI, [.t 21, .t 26]⟩,
  ⟨some 28, none, .pick, [.t 20, .t 27, .bool false]⟩,
  ⟨some 4, none, .mov, [.t 28]⟩,
  ⟨some 5, none, .mov, [.int .i64 0]⟩])
 (.ret))))⟩
def cf_overlap_split : Fn := ⟨2, 23, [.t 4, .t 5, .t 6], [.o (.sl t0), .o (.sl t0), .v tI], none,
 .seq (.reg false [
  ⟨some 4, none, .own0 0 (.sl t0), []⟩,
  ⟨some 5, none, .own0 4 (.sl t0), []⟩,
  ⟨some 6, none, .mov, [.int .i64 0]⟩])
 (.seq (.seq (.reg false [
  ⟨some 8, none, .mov, [.t 0]⟩,
  ⟨some 9, none, .call 1004 (some 6) [.o (.sl t0), .v tI] false, [.t 8]⟩,
  ⟨some 7, none, .mov, [.t 9]⟩,
  ⟨some 10, none, .ext 0, [.t 7]⟩,
  ⟨some 11, none, .ext 1, [.t 7]⟩,
  ⟨some 4, none, .mov, [.t 10]⟩,
  ⟨some 6, none, .mov, [.t 11]⟩])
 (.seq (.reg false [
  ⟨some 12, none, .mov, [.t 6]⟩,
  ⟨some 13, none, .bin .neq tI, [.t 12, .int .i64 0]⟩])
 (.cond (.t 13) (.seq (.reg false [
  ⟨some 14, none, .mov, [.t 6]⟩,
  ⟨some 4, none, .own0 3004 (.sl t0), []⟩,
  ⟨some 5, none, .own0 3008 (.sl t0), []⟩,
  ⟨some 6, none, .mov, [.t 14]⟩])
 (.ret)) (.skip))))
 (.seq (.reg false [
  ⟨some 16, none, .mov, [.t 1]⟩,
  ⟨some 17, none, .call 4004 (some 6) [.o (.sl t0), .v tI] false, [.t 16]⟩,
  ⟨some 15, none, .mov, [.t 17]⟩,
  ⟨some 18, none, .ext 0, [.t 15]⟩,
  ⟨some 19, none, .ext 1, [.t 15]⟩,
  ⟨some 5, none, .mov, [.t 18]⟩,
  ⟨some 6, none, .mov, [.t 19]⟩])
 (.seq (.reg false [
  ⟨some 20, none, .mov, [.t 4]⟩,
  ⟨some 21, none, .mov, [.t 5]⟩,
  ⟨some 22, none, .mov, [.t 6]⟩,
  ⟨some 4, none, .mov, [.t 20]⟩,
  ⟨some 5, none, .mov, [.t 21]⟩,
  ⟨some 6, none, .mov, [.t 22]⟩])
 (.ret))))⟩
def cf_overlap_meet : Fn := ⟨3, 37, [.t 6], [.v .bool], none,
 .seq (.reg false [
  ⟨some 6, none, .mov, [.bool false]⟩])
 (.seq (.seq (.reg false [
  ⟨some 11, none, .mov, [.t 0]⟩,
  ⟨some 12, none, .len, [.t 11]⟩,
  ⟨some 13, none, .mov, [.int .i64 0]⟩])
 (.block 0 (.loop 100000 [1, 2, 11, 12, 13] (.seq (.reg false [
  ⟨some 14, none, .bin .lss tI, [.t 13, .t 12]⟩])
 (.seq (.cond (.t 14) (.skip) (.exit 0))
 (.seq (.block 1 (.seq (.reg false [
  ⟨some 15, none, .iadr (.sl t0), [.t 11, .t 13]⟩,
  ⟨some 16, none, .load (.sl t0), [.t 15]⟩,
  ⟨some 8, none, .mov, [.t 16]⟩])
 (.seq (.reg false [
  ⟨some 17, none, .mov, [.t 1]⟩,
  ⟨some 18, none, .len, [.t 17]⟩,
  ⟨some 19, none, .mov, [.int .i64 0]⟩])
 (.block 2 (.loop 200000 [1, 2, 8, 11, 12, 13, 17, 18, 19] (.seq (.reg false [
  ⟨some 20, none, .bin .lss tI, [.t 19, .t 18]⟩])
 (.seq (.cond (.t 20) (.skip) (.exit 2))
 (.seq (.block 3 (.seq (.reg false [
  ⟨some 21, none, .iadr (.sl t0), [.t 17, .t 19]⟩,
  ⟨some 22, none, .load (.sl t0), [.t 21]⟩,
  ⟨some 10, none, .mov, [.t 22]⟩])
 (.seq (.reg false [
  ⟨some 23, none, .mov, [.t 8]⟩,
  ⟨some 24, none, .mov, [.t 10]⟩,
  ⟨some 25, none, .mov, [.t 2]⟩,
  ⟨some 26, none, .call 7012 (some 149) [.v .bool] false, [.t 23, .t 24, .t 25]⟩,
  ⟨some 27, none, .not, [.t 26]⟩,
  ⟨some 28, none, .mov, [.t 27]⟩,
  ⟨some 29, (some (28, true)), .mov, [.t 10]⟩,
  ⟨some 30, (some (28, true)), .mov, [.t 8]⟩,
  ⟨some 31, (some (28, true)), .mov, [.t 2]⟩,
  ⟨some 32, (some (28, true)), .call 7036 (some 149) [.v .bool] false, [.t 29, .t 30, .t 31]⟩,
  ⟨some 33, (some (28, true)), .not, [.t 32]⟩,
  ⟨some 34, none, .pick, [.t 28, .t 33, .bool false]⟩])
 (.cond (.t 34) (.seq (.reg false [
  ⟨some 6, none, .mov, [.bool true]⟩])
 (.ret)) (.skip)))))
 (.reg false [
  ⟨some 35, none, .bin .add tI, [.t 19, .int .i64 1]⟩,
  ⟨some 19, none, .mov, [.t 35]⟩])))))))))
 (.reg false [
  ⟨some 36, none, .bin .add tI, [.t 13, .int .i64 1]⟩,
  ⟨some 13, none, .mov, [.t 36]⟩])))))))
 (.seq (.reg false [
  ⟨some 6, none, .mov, [.bool false]⟩])
 (.ret)))⟩
def cf_overlap_outside : Fn := ⟨3, 73, [.t 6], [.v .bool], none,
 .seq (.reg false [
  ⟨some 6, none, .mov, [.bool false]⟩])
 (.seq (.seq (.reg false [
  ⟨some 14, none, .mov, [.t 0]⟩,
  ⟨some 15, none, .len, [.t 14]⟩,
  ⟨some 16, none, .mov, [.int .i64 0]⟩])
 (.block 0 (.loop 100000 [0, 1, 2, 14, 15, 16] (.seq (.reg false [
  ⟨some 17, none, .bin .lss tI, [.t 16, .t 15]⟩])
 (.seq (.cond (.t 17) (.skip) (.exit 0))
 (.seq (.block 1 (.seq (.reg false [
  ⟨some 18, none, .mov, [.t 16]⟩,
  ⟨some 19, none, .iadr t0, [.t 14, .t 16]⟩,
  ⟨some 20, none, .load t0, [.t 19]⟩,
  ⟨some 8, none, .alloc 3012 t0, []⟩,
  ⟨some 7, none, .mov, [.t 18]⟩,
  ⟨none, none, .store t0, [.t 8, .t 20]⟩])
 (.seq (.reg false [
  ⟨some 21, none, .mov, [.t 0]⟩,
  ⟨some 22, none, .mov, [.t 7]⟩,
  ⟨some 23, none, .bin .add tI, [.t 22, .int .i64 1]⟩,
  ⟨some 24, none, .mov, [.t 0]⟩,
  ⟨some 25, none, .len, [.t 24]⟩,
  ⟨some 26, none, .bin .rem tI, [.t 23, .t 25]⟩,
  ⟨some 27, none, .iadr t0, [.t 21, .t 26]⟩,
  ⟨some 28, none, .load t0, [.t 27]⟩,
  ⟨some 9, none, .alloc 4032 t0, []⟩,
  ⟨none, none, .store t0, [.t 9, .t 28]⟩])
 (.seq (.reg false [
  ⟨some 10, none, .mov, [.bool true]⟩])
 (.seq (.seq (.reg false [
  ⟨some 29, none, .mov, [.t 1]⟩,
  ⟨some 30, none, .len, [.t 29]⟩,
  ⟨some 31, none, .mov, [.int .i64 0]⟩])
 (.block 2 (.loop 200000 [0, 1, 2, 8, 9, 10, 14, 15, 16, 29, 30, 31] (.seq (.reg false [
  ⟨some 32, none, .bin .lss tI, [.t 31, .t 30]⟩])
 (.seq (.cond (.t 32) (.skip) (.exit 2))
 (.seq (.block 3 (.seq (.reg false [
  ⟨some 33, none, .iadr t0, [.t 29, .t 31]⟩,
  ⟨some 34, none, .load t0, [.t 33]⟩,
  ⟨some 12, none, .alloc 8008 t0, []⟩,
  ⟨none, none, .store t0, [.t 12, .t 34]⟩])
 (.seq (.reg false [
  ⟨some 35, none, .fadr t0 [false], [.t 9]⟩,
  ⟨some 36, none, .load tI, [.t 35]⟩,
  ⟨some 37, none, .fadr t0 [false], [.t 8]⟩,
  ⟨some 38, none, .load tI, [.t 37]⟩,
  ⟨some 39, none, .bin .sub tI, [.t 36, .t 38]⟩,
  ⟨some 40, none, .fadr t0 [true], [.t 12]⟩,
  ⟨some 41, none, .load tI, [.t 40]⟩,
  ⟨some 42, none, .fadr t0 [true], [.t 8]⟩,
  ⟨some 43, none, .load tI, [.t 42]⟩,
  ⟨some 44, none, .bin .sub tI, [.t 41, .t 43]⟩,
  ⟨some 45, none, .bin .mul tI, [.t 39, .t 44]⟩,
  ⟨some 46, none, .fadr t0 [true], [.t 9]⟩,
  ⟨some 47, none, .load tI, [.t 46]⟩,
  ⟨some 48, none, .fadr t0 [true], [.t 8]⟩,
  ⟨some 49, none, .load tI, [.t 48]⟩,
  ⟨some 50, none, .bin .sub tI, [.t 47, .t 49]⟩,
  ⟨some 51, none, .fadr t0 [false], [.t 12]⟩,
  ⟨some 52, none, .load tI, [.t 51]⟩,
  ⟨some 53, none, .fadr t0 [false], [.t 8]⟩,
  ⟨some 54, none, .load tI, [.t 53]⟩,
  ⟨some 55, none, .bin .sub tI, [.t 52, .t 54]⟩,
  ⟨some 56, none, .bin .mul tI, [.t 50, .t 55]⟩,
  ⟨some 57, none, .bin .sub tI, [.t 45, .t 56]⟩,
  ⟨some 13, none, .mov, [.t 57]⟩])
 (.reg false [
  ⟨some 58, none, .mov, [.t 10]⟩,
  ⟨some 59, none, .mov, [.t 58]⟩,
  ⟨some 60, (some (59, true)), .mov, [.t 13]⟩,
  ⟨some 61, (some (59, true)), .bin .lss tI, [.t 60, .int .i64 0]⟩,
  ⟨some 62, (some (59, true)), .mov, [.t 61]⟩,
  ⟨some 63, (some (62, false)), .mov, [.t 2]⟩,
  ⟨some 64, (some (62, false)), .mov, [.t 63]⟩,
  ⟨some 65, (some (64, true)), .mov, [.t 13]⟩,
  ⟨some 66, (some (64, true)), .bin .eql tI, [.t 65, .int .i64 0]⟩,
  ⟨some 67, (some (62, false)), .pick, [.t 64, .t 66, .bool false]⟩,
  ⟨some 68, (some (59, true)), .pick, [.t 62, .bool true, .t 67]⟩,
  ⟨some 69, none, .pick, [.t 59, .t 68, .bool false]⟩,
  ⟨some 10, none, .mov, [.t 69]⟩]))))
 (.reg false [
  ⟨some 70, none, .bin .add tI, [.t 31, .int .i64 1]⟩,
  ⟨some 31, none, .mov, [.t 70]⟩])))))))
 (.seq (.reg false [
  ⟨some 71, none, .mov, [.t 10]⟩])
 (.cond (.t 71) (.seq (.reg false [
  ⟨some 6, none, .mov, [.bool true]⟩])
 (.ret)) (.skip))))))))
 (.reg false [
  ⟨some 72, none, .bin .add tI, [.t 16, .int .i64 1]⟩,
  ⟨some 16, none, .mov, [.t 72]⟩])))))))
 (.seq (.reg false [
  ⟨some 6, none, .mov, [.bool false]⟩])
 (.ret)))⟩
def cf_overlap_clip : Fn := ⟨2, 28, [.t 4, .t 5, .t 6], [.v tI, .v tI, .v .bool], none,
 .seq (.reg false [
  ⟨some 4, none, .mov, [.int .i64 0]⟩,
  ⟨some 5, none, .mov, [.int .i64 0]⟩,
  ⟨some 6, none, .mov, [.bool false]⟩])
 (.seq (.seq (.reg false [
  ⟨some 7, none, .mov, [.t 0]⟩,
  ⟨some 8, none, .bin .geq tI, [.t 7, .int .i64 1048576]⟩])
 (.cond (.t 8) (.seq (.reg false [
  ⟨some 4, none, .mov, [.int .i64 0]⟩,
  ⟨some 5, none, .mov, [.int .i64 0]⟩,
  ⟨some 6, none, .mov, [.bool false]⟩])
 (.ret)) (.skip)))
 (.seq (.reg false [
  ⟨some 5, none, .mov, [.int .i64 1048576]⟩])
 (.seq (.seq (.reg false [
  ⟨some 9, none, .mov, [.t 0]⟩,
  ⟨some 10, none, .bin .lss tI, [.t 9, .int .i64 0]⟩,
  ⟨some 11, none, .mov, [.t 10]⟩,
  ⟨some 12, (some (11, false)), .mov, [.t 1]⟩,
  ⟨some 13, (some (11, false)), .mov, [.t 0]⟩,
  ⟨some 14, (some (11, false)), .bin .sub tI, [.int .i64 1048576, .t 13]⟩,
  ⟨some 15, (some (11, false)), .bin .lss tI, [.t 12, .t 14]⟩,
  ⟨some 16, none, .pick, [.t 11, .bool true, .t 15]⟩])
 (.cond (.t 16) (.reg false [
  ⟨some 17, none, .mov, [.t 0]⟩,
  ⟨some 18, none, .mov, [.t 1]⟩,
  ⟨some 19, none, .bin .add tI, [.t 17, .t 18]⟩,
  ⟨some 20, none, .mm false .i64, [.t 19, .int .i64 1048576]⟩,
  ⟨some 5, none, .mov, [.t 20]⟩]) (.skip)))
 (.seq (.reg false [
  ⟨some 21, none, .mov, [.t 0]⟩,
  ⟨some 22, none, .mm true .i64, [.t 21, .int .i64 (-1048576)]⟩,
  ⟨some 4, none, .mov, [.t 22]⟩])
 (.seq (.reg false [
  ⟨some 23, none, .mov, [.t 4]⟩,
  ⟨some 24, none, .mov, [.t 5]⟩,
  ⟨some 25, none, .mov, [.t 4]⟩,
  ⟨some 26, none, .mov, [.t 5]⟩,
  ⟨some 27, none, .bin .lss tI, [.t 25, .t 26]⟩,
  ⟨some 4, none, .mov, [.t 23]⟩,
  ⟨some 5, none, .mov, [.t 24]⟩,
  ⟨some 6, none, .mov, [.t 27]⟩])
 (.ret))))))⟩
def cf_garmentref15_Crosses : Fn := ⟨2, 51, [.t 4, .t 5], [.v .bool, .v tI], none,
 .seq (.reg false [
  ⟨some 4, none, .mov, [.bool false]⟩,
  ⟨some 5, none, .mov, [.int .i64 0]⟩])
 (.seq (.seq (.reg false [
  ⟨some 10, none, .mov, [.t 0]⟩,
  ⟨some 11, none, .call 1004 (some 67) [.v tI] false, [.t 10]⟩,
  ⟨some 6, none, .mov, [.t 11]⟩])
 (.seq (.reg false [
  ⟨some 12, none, .mov, [.t 6]⟩,
  ⟨some 13, none, .bin .neq tI, [.t 12, .int .i64 0]⟩])
 (.cond (.t 13) (.seq (.reg false [
  ⟨some 14, none, .mov, [.t 6]⟩,
  ⟨some 4, none, .mov, [.bool false]⟩,
  ⟨some 5, none, .mov, [.t 14]⟩])
 (.ret)) (.skip))))
 (.seq (.reg true [
  ⟨some 15, none, .mov, [.t 0]⟩,
  ⟨some 16, none, .iadr t0, [.t 15, .int .i64 0]⟩,
  ⟨some 17, none, .fadr t0 [false], [.t 16]⟩,
  ⟨some 18, none, .load tI, [.t 17]⟩,
  ⟨some 19, none, .mov, [.t 0]⟩,
  ⟨some 20, none, .iadr t0, [.t 19, .int .i64 0]⟩,
  ⟨some 21, none, .fadr t0 [false], [.t 20]⟩,
  ⟨some 22, none, .load tI, [.t 21]⟩,
  ⟨some 7, none, .mov, [.t 18]⟩,
  ⟨some 8, none, .mov, [.t 22]⟩])
 (.seq (.seq (.reg false [
  ⟨some 9, none, .mov, [.int .i64 1]⟩])
 (.block 0 (.loop 100000 [0, 1, 7, 8, 9] (.seq (.seq (.reg false [
  ⟨some 23, none, .mov, [.t 9]⟩,
  ⟨some 24, none, .mov, [.t 0]⟩,
  ⟨some 25, none, .len, [.t 24]⟩,
  ⟨some 26, none, .bin .lss tI, [.t 23, .t 25]⟩])
 (.cond (.t 26) (.skip) (.exit 0)))
 (.seq (.block 1 (.reg true [
  ⟨some 29, none, .mov, [.t 7]⟩,
  ⟨some 30, none, .mov, [.t 0]⟩,
  ⟨some 31, none, .mov, [.t 9]⟩,
  ⟨some 32, none, .iadr t0, [.t 30, .t 31]⟩,
  ⟨some 33, none, .fadr t0 [false], [.t 32]⟩,
  ⟨some 34, none, .load tI, [.t 33]⟩,
  ⟨some 35, none, .mm false .i64, [.t 29, .t 34]⟩,
  ⟨some 36, none, .mov, [.t 8]⟩,
  ⟨some 37, none, .mov, [.t 0]⟩,
  ⟨some 38, none, .mov, [.t 9]⟩,
  ⟨some 39, none, .iadr t0, [.t 37, .t 38]⟩,
  ⟨some 40, none, .fadr t0 [false], [.t 39]⟩,
  ⟨some 41, none, .load tI, [.t 40]⟩,
  ⟨some 42, none, .mm true .i64, [.t 36, .t 41]⟩,
  ⟨some 7, none, .mov, [.t 35]⟩,
  ⟨some 8, none, .mov, [.t 42]⟩]))
 (.reg false [
  ⟨some 27, none, .mov, [.t 9]⟩,
  ⟨some 28, none, .bin .add tI, [.t 27, .int .i64 1]⟩,
  ⟨some 9, none, .mov, [.t 28]⟩]))))))
 (.seq (.reg false [
  ⟨some 43, none, .mov, [.t 7]⟩,
  ⟨some 44, none, .mov, [.t 1]⟩,
  ⟨some 45, none, .bin .lss tI, [.t 43, .t 44]⟩,
  ⟨some 46, none, .mov, [.t 45]⟩,
  ⟨some 47, (some (46, true)), .mov, [.t 1]⟩,
  ⟨some 48, (some (46, true)), .mov, [.t 8]⟩,
  ⟨some 49, (some (46, true)), .bin .lss tI, [.t 47, .t 48]⟩,
  ⟨some 50, none, .pick, [.t 46, .t 49, .bool false]⟩,
  ⟨some 4, none, .mov, [.t 50]⟩,
  ⟨some 5, none, .mov, [.int .i64 0]⟩])
 (.ret)))))⟩
def cf_garmentlaw15_OverlapCrosses : Fn := ⟨2, 36, [.t 4], [.v .bool], none,
 .seq (.reg false [
  ⟨some 4, none, .mov, [.bool false]⟩])
 (.seq (.seq (.reg false [
  ⟨some 9, none, .mov, [.t 0]⟩,
  ⟨some 10, none, .len, [.t 9]⟩,
  ⟨some 11, none, .bin .gtr tI, [.t 10, .int .i64 40]⟩])
 (.cond (.t 11) (.seq (.reg false [
  ⟨some 12, none, .call 2000 (some 138) [.v .bool] false, []⟩,
  ⟨some 4, none, .mov, [.t 12]⟩])
 (.ret)) (.skip)))
 (.seq (.reg false [
  ⟨some 14, none, .mov, [.t 0]⟩,
  ⟨some 15, none, .mov, [.t 1]⟩,
  ⟨some 16, none, .call 3008 (some 146) [.v .bool, .v tI] false, [.t 14, .t 15]⟩,
  ⟨some 13, none, .mov, [.t 16]⟩,
  ⟨some 17, none, .ext 0, [.t 13]⟩,
  ⟨some 18, none, .ext 1, [.t 13]⟩,
  ⟨some 5, none, .mov, [.t 17]⟩,
  ⟨some 6, none, .mov, [.t 18]⟩])
 (.seq (.reg false [
  ⟨some 20, none, .mov, [.t 0]⟩,
  ⟨some 21, none, .mov, [.t 1]⟩,
  ⟨some 22, none, .call 4008 (some 166) [.v .bool, .v tI] false, [.t 20, .t 21]⟩,
  ⟨some 19, none, .mov, [.t 22]⟩,
  ⟨some 23, none, .ext 0, [.t 19]⟩,
  ⟨some 24, none, .ext 1, [.t 19]⟩,
  ⟨some 7, none, .mov, [.t 23]⟩,
  ⟨some 8, none, .mov, [.t 24]⟩])
 (.seq (.reg false [
  ⟨some 25, none, .mov, [.t 5]⟩,
  ⟨some 26, none, .mov, [.t 7]⟩,
  ⟨some 27, none, .bin .eql .bool, [.t 25, .t 26]⟩,
  ⟨some 28, none, .mov, [.t 27]⟩,
  ⟨some 29, (some (28, true)), .mov, [.t 6]⟩,
  ⟨some 30, (some (28, true)), .mov, [.t 8]⟩,
  ⟨some 31, (some (28, true)), .bin .eql tI, [.t 29, .t 30]⟩,
  ⟨some 32, none, .pick, [.t 28, .t 31, .bool false]⟩,
  ⟨some 33, none, .mov, [.t 32]⟩,
  ⟨some 34, (some (33, true)), .call 5036 (some 138) [.v .bool] false, []⟩,
  ⟨some 35, none, .pick, [.t 33, .t 34, .bool false]⟩,
  ⟨some 4, none, .mov, [.t 35]⟩])
 (.ret)))))⟩
end Pm
end
section
/- The table of the functions. -/
namespace Pm
open Go
set_option maxRecDepth 20000
set_option linter.unusedVariables false
def G : Nat → Option Fn := fun n =>
 cond (Nat.beq n 6) (some cf_triangle_Split) <|
 cond (Nat.beq n 8) (some cf_polygon_Normal) <|
 cond (Nat.beq n 9) (some cf_triangle_Split_1) <|
 cond (Nat.beq n 10) (some cf_triangle_Split_2) <|
 cond (Nat.beq n 11) (some cf_triangle_find) <|
 cond (Nat.beq n 12) (some cf_triangle_without) <|
 cond (Nat.beq n 13) (some cf_polygon_Check) <|
 cond (Nat.beq n 14) (some cf_polygon_turn) <|
 cond (Nat.beq n 15) (some cf_polygon_area) <|
 cond (Nat.beq n 16) (some cf_slices_Reverse_api_Spot_api_Spot) <|
 cond (Nat.beq n 17) (some cf_slices_MinFunc_api_Spot_api_Spot) <|
 cond (Nat.beq n 18) (some cf_polygon_order) <|
 cond (Nat.beq n 19) (some cf_slices_Index_api_Spot_api_Spot) <|
 cond (Nat.beq n 20) (some cf_polygon_inside) <|
 cond (Nat.beq n 21) (some cf_polygon_simple) <|
 cond (Nat.beq n 22) (some cf_polygon_sides) <|
 cond (Nat.beq n 23) (some cf_polygon_side_holds) <|
 cond (Nat.beq n 24) (some cf_polygon_side_meets) <|
 cond (Nat.beq n 25) (some cf_polygon_within) <|
 cond (Nat.beq n 26) (some cf_polygon_side_divides) <|
 cond (Nat.beq n 27) (some cf_triangle_cross) <|
 cond (Nat.beq n 28) (some cf_triangle_covers) <|
 cond (Nat.beq n 33) (some cf_garmentref11_Cross) <|
 cond (Nat.beq n 61) (some cf_polygon_Box) <|
 cond (Nat.beq n 67) (some cf_garmentref11_Check) <|
 cond (Nat.beq n 68) (some cf_garmentref11_Within) <|
 cond (Nat.beq n 69) (some cf_garmentref11_simple) <|
 cond (Nat.beq n 70) (some cf_garmentref11_Between) <|
 cond (Nat.beq n 71) (some cf_garmentref11_meet) <|
 cond (Nat.beq n 72) (some cf_garmentref11_sign) <|
 cond (Nat.beq n 138) (some cf_garmentlaw15_exampleHolds) <|
 cond (Nat.beq n 139) (some cf_overlap_Overlap) <|
 cond (Nat.beq n 141) (some cf_overlap_Touch) <|
 cond (Nat.beq n 144) (some cf_garmentlaw15_rect) <|
 cond (Nat.beq n 145) (some cf_overlap_Hits) <|
 cond (Nat.beq n 146) (some cf_overlap_Crosses) <|
 cond (Nat.beq n 147) (some cf_overlap_split) <|
 cond (Nat.beq n 148) (some cf_overlap_meet) <|
 cond (Nat.beq n 149) (some cf_overlap_outside) <|
 cond (Nat.beq n 150) (some cf_overlap_clip) <|
 cond (Nat.beq n 166) (some cf_garmentref15_Crosses) <|
 cond (Nat.beq n 167) (some cf_garmentlaw15_OverlapCrosses) <| none
noncomputable def CG : CallF := limC G
end Pm
end
